/-
Walks. No condition.
-/
import Derived.Test.YtmgfndipofbbaaaGreatKNf
import Derived.Test.YtmgfndipofbbaaaGreatChecked
import Derived.KernelRfl
import Derived.Test.YtmgfndipofbbaaaGreatKWClosuresb
namespace Go.Vi
open Go.Proofs
set_option linter.all false
set_option maxRecDepth 4000
set_option maxHeartbeats 2000000
open Nat renaming reduceBEq → A, reduceMul → B, reduceAdd → C, reduceDiv → E, le_of_ble_eq_true → uf
open Int renaming reduceBEq → F
attribute [local irreducible] go AWP
open List renaming map → W, map_nil → Y, all_eq_true → Z, all_cons → I, all_nil → zA, cons_append → zC, nil_append → zD, drop_zero → zE, replicate → zG
open Tryz renaming prog → X
open Xe renaming row → zB
open Xa renaming row → zF
open Bool renaming true → T, false → G
open Option renaming some → H, none → L
open _root_ renaming List → N, Option → O, Int → P, Bool → Q, Nat → U, rfl → V
/- 364:impl_partners -/
def C58:X2:= .seq (.reg [(L,.keep [0,1,2,7,8,9,10,15,16,17,22,23,24,45] [9] [896])]) (.cond (S 45) (.drw [o0 (mv 46 7),o0 (mv 47 8),o0 (ia 48 46 47 1),o0 (ld 49 48),o0 (mv 50 10),o0 (L,.bin 51 .shl (.c (.v (.sc (.dat (.int .u64 1))))) (S 50)),o0 (bn 52 .or 49 51),o0 (ia 53 46 47 1),(L,so 53 52 1)]) .skip)
def C46:X2:=(.reg [(L,.bin 54 .add (S 24) (K 1)),mv 24 54])
def B7o:X2:= .seq (.reg [(L,.keep [0,1,2,7,8,9,15,16,17,22,23,24] [9] [896])]) (.seq (.reg [bn 25 .lss 24 23]) (.seq (.cond (S 25) .skip (.exit 2)) (.seq (.block 3 (.seq (.reg [mv 26 24,ia 27 22 24 4,lw 28 27 4,(L,.alloc 11 [aI 0,aI 0,aI 0,aI 0]),mv 10 26,so 11 28 4]) (.seq (.reg [mv 29 8,mv 30 10,bn 31 .neq 29 30,mv 32 31,(H (32,T),.mv 33 (S 0)),(H (32,T),.mv 34 (S 1)),(H (32,T),.load 35 (S 9) T 4),(H (32,T),.load 36 (S 11) T 4),(H (32,T),.call 37 379 [(S 33),(S 34),(S 35),(S 36)]),(H (32,T),.mv 38 (S 37)),(H (38,G),.mv 39 (S 0)),(H (38,G),.mv 40 (S 1)),(H (38,G),.load 41 (S 11) T 4),(H (38,G),.load 42 (S 9) T 4),(H (38,G),.call 43 379 [(S 39),(S 40),(S 41),(S 42)]),(H (32,T),.pick 44 (S 38) (KB T) (S 43)),pa 45 32 44]) C58))) C46)))
def C1i:X2:=(.reg [(L,.bin 55 .add (S 17) (K 1)),mv 17 55])
def B2y:X2:= .seq (.reg [(L,.keep [0,1,2,7,15,16,17] [] [896])]) (.seq (.reg [bn 18 .lss 17 16]) (.seq (.cond (S 18) .skip (.exit 0)) (.seq (.block 1 (.seq (.reg [mv 19 17,ia 20 15 17 4,lw 21 20 4,(L,.alloc 9 [aI 0,aI 0,aI 0,aI 0]),mv 8 19,so 9 21 4]) (.seq (.reg [mv 22 2,ln 23 22,(L,.mv 24 (K 0))]) (.block 2 (.loop B7o))))) C1i)))
def B4q:X2:=(.seq (.reg [mv 56 7,mv 6 56]) .ret)
def cc451:X2:=(.seq (.reg [(L,.mv 6 KN)]) (.seq (.reg [mv 12 2,ln 13 12,(L,.mksl 14 1 8 [.int .u64 0] (S 13) (S 13)),mv 7 14]) (.seq (.seq (.reg [mv 15 2,ln 16 15,(L,.mv 17 (K 0))]) (.block 0 (.loop B2y))) B4q)))
theorem D3k(a0:P)(a1:N P)(a2:N Xe)(v2 v6:P)(x5:Xe)(v7:N P)(A20:P→(N P)→O (N P))(A9r:∀(v6:P) (v7:N P) zr,A20 v6 v7=H zr→∀σ:St,σ.kept [0,1,2,7,8,9,15,16,17,22,23,24] [9] [896]=⟨[(0,vc (aI a0)),(1,vc (aL (W rI a1))),(2,vc (aL (W zB a2))),(7,vc (.own 896)),(8,vc (aI v2)),(9,vc (.pb 9 0)),(15,vc (aL (W zB a2))),(16,vc (aI (a2.length:P))),(17,vc (aI v2)),(22,vc (aL (W zB a2))),(23,vc (aI (a2.length:P))),(24,vc (aI v6))],[(9,(dm x5.row))],[(896,1,W rU v7)]⟩→go X (.code (.loop B7o):: [.blk 2,.blk 1,.code C1i,.code (.loop B2y),.blk 0,.code B4q]) (Ret [6] [.sc (.o 1 (W rU zr))]) .normal (H σ))(v14:Q)(r:(N P))(h:Y1 a0 a1 a2 v2 v6 x5 v7 A20 v14=H r)(σ:St)(hσ:σ.kept [0,1,2,7,8,9,10,15,16,17,22,23,24,45] [9] [896]=⟨[(0,vc (aI a0)),(1,vc (aL (W rI a1))),(2,vc (aL (W zB a2))),(7,vc (.own 896)),(8,vc (aI v2)),(9,vc (.pb 9 0)),(10,vc (aI v6)),(15,vc (aL (W zB a2))),(16,vc (aI (a2.length:P))),(17,vc (aI v2)),(22,vc (aL (W zB a2))),(23,vc (aI (a2.length:P))),(24,vc (aI v6)),(45,vc (aB v14))],[(9,(dm x5.row))],[(896,1,W rU v7)]⟩):go X (.code C58:: [.blk 3,.code C46,.code (.loop B7o),.blk 2,.blk 1,.code C1i,.code (.loop B2y),.blk 0,.code B4q]) (Ret [6] [.sc (.o 1 (W rU r))]) .normal (H σ):=by
 unfold Y1 at h
 rcases ic h with ⟨h15,h⟩|⟨h15,h⟩
 ·try simp only[hσ,h15,C58,A,B,C,E,F,J]
  refine C3 V ?_
  obtain⟨x16,h16,h⟩:=ob h
  have h16n:=N4 h16
  obtain⟨h17,h⟩:=A1h h
  try simp only[h15,h16,h16n,h17,A,B,C,E,F,J]
  refine A6c (row:=rU) (y:=(K5 .or .u64 x16 (A1j .u64 (1:P) v6))) V V h16n V V (by rfl) ?_
  try simp only[h15,h16,h16n,h17,A,B,C,E,F,J]
  refine C3 V ?_
  try simp only[h15,h16,h16n,h17,C46,A,B,C,E,F,J]
  refine A9r _ _ _ h _ ?_
  try simp only[h15,h16,h16n,h17,A,B,C,E,F,J,Y]
 ·try simp only[hσ,h15,C58,C46,A,B,C,E,F,J]
  refine A9r _ _ _ h _ ?_
  try simp only[h15,A,B,C,E,F,J,Y]
theorem F8b(a0:P)(a1:N P)(a2:N Xe)(v2:P)(x5:Xe)(M9:P→(N P)→O (N P))(B56:∀(v2:P) (v3:N P) zr,M9 v2 v3=H zr→∀σ:St,σ.kept [0,1,2,7,15,16,17] [] [896]=⟨[(0,vc (aI a0)),(1,vc (aL (W rI a1))),(2,vc (aL (W zB a2))),(7,vc (.own 896)),(15,vc (aL (W zB a2))),(16,vc (aI (a2.length:P))),(17,vc (aI v2))],[],[(896,1,W rU v3)]⟩→go X (.code (.loop B2y):: [.blk 0,.code B4q]) (Ret [6] [.sc (.o 1 (W rU zr))]) .normal (H σ)):∀(n:U) (v6:P) (v7:N P) (r:(N P)),G6 a0 a1 a2 v2 x5 M9 n v6 v7=H r→∀σ:St,σ.kept [0,1,2,7,8,9,15,16,17,22,23,24] [9] [896]=⟨[(0,vc (aI a0)),(1,vc (aL (W rI a1))),(2,vc (aL (W zB a2))),(7,vc (.own 896)),(8,vc (aI v2)),(9,vc (.pb 9 0)),(15,vc (aL (W zB a2))),(16,vc (aI (a2.length:P))),(17,vc (aI v2)),(22,vc (aL (W zB a2))),(23,vc (aI (a2.length:P))),(24,vc (aI v6))],[(9,(dm x5.row))],[(896,1,W rU v7)]⟩→go X (.code (.loop B7o):: [.blk 2,.blk 1,.code C1i,.code (.loop B2y),.blk 0,.code B4q]) (Ret [6] [.sc (.o 1 (W rU r))]) .normal (H σ):=by
 intro n
 induction n with
 | zero=>intro _ _ r h; cases h
 | succ n ih=>
  intro v6 v7 r h σ hσ
  rw[G6] at h
  refine B0 ?_
  rcases ic h with ⟨h8,h⟩|⟨h8,h⟩
  ·obtain⟨x9,h9,h⟩:=ob h
   try simp only[hσ,h8,h9,B7o,A,B,C,E,F,J]
   refine D7 V V ?_
   rcases ic h with ⟨h10,h⟩|⟨h10,h⟩
   ·obtain⟨r11,h11,h⟩:=ob h
    try simp only[h8,h9,h10,A,B,C,E,F,J]
    refine A2 (B16 _ _ _ _ _ h11) V V (uf V) ?_
    rcases ic h with ⟨h12,h⟩|⟨h12,h⟩
    ·try simp only[h8,h9,h10,h12,A,B,C,E,F,J]
     refine D3k _ _ _ _ _ _ _ (G6 a0 a1 a2 v2 x5 M9 n) ih _ _ h _ ?_
     try simp only[h8,h9,h10,h12,A,B,C,E,F,J,Y]
    ·obtain⟨r13,h13,h⟩:=ob h
     try simp only[h8,h9,h10,h12,A,B,C,E,F,J]
     refine A2 (B16 _ _ _ _ _ h13) V V (uf V) ?_
     try simp only[h8,h9,h10,h12,A,B,C,E,F,J]
     refine D3k _ _ _ _ _ _ _ (G6 a0 a1 a2 v2 x5 M9 n) ih _ _ h _ ?_
     try simp only[h8,h9,h10,h12,A,B,C,E,F,J,Y]
   ·try simp only[h8,h9,h10,A,B,C,E,F,J]
    refine D3k _ _ _ _ _ _ _ (G6 a0 a1 a2 v2 x5 M9 n) ih _ _ h _ ?_
    try simp only[h8,h9,h10,A,B,C,E,F,J,Y]
  ·try simp only[hσ,h8,B7o,C1i,A,B,C,E,F,J]
   refine B56 _ _ _ h _ ?_
   try simp only[h8,A,B,C,E,F,J,Y]
theorem F7m(a0:P)(a1:N P)(a2:N Xe):∀(n:U) (v2:P) (v3:N P) (r:(N P)),N0 a0 a1 a2 n v2 v3=H r→∀σ:St,σ.kept [0,1,2,7,15,16,17] [] [896]=⟨[(0,vc (aI a0)),(1,vc (aL (W rI a1))),(2,vc (aL (W zB a2))),(7,vc (.own 896)),(15,vc (aL (W zB a2))),(16,vc (aI (a2.length:P))),(17,vc (aI v2))],[],[(896,1,W rU v3)]⟩→go X (.code (.loop B2y):: [.blk 0,.code B4q]) (Ret [6] [.sc (.o 1 (W rU r))]) .normal (H σ):=by
 intro n
 induction n with
 | zero=>intro _ _ r h; cases h
 | succ n ih=>
  intro v2 v3 r h σ hσ
  rw[N0] at h
  refine B0 ?_
  rcases ic h with ⟨h4,h⟩|⟨h4,h⟩
  ·obtain⟨x5,h5,h⟩:=ob h
   try simp only[hσ,h4,h5,B2y,A,B,C,E,F,J]
   refine D7 V V ?_
   try simp only[h4,h5,A,B,C,E,F,J]
   refine F8b _ _ _ _ _ (N0 a0 a1 a2 n) ih _ _ _ _ h _ ?_
   try simp only[h4,h5,A,B,C,E,F,J,Y]
  ·try simp only[hσ,h4,B2y,B4q,A,B,C,E,F,J]
   cases h
   trivial
theorem F9d:A5 X 364=H (cc451.strip,[6],57):=by kernel_rfl
theorem C0u(a0:P)(a1:N P)(a2:N Xe)(r:(N P))(h:A4u a0 a1 a2=H r):FC X 364 [.sc (.int .i64 a0),.sc (.sl (W rI a1)),.sc (.sl (W zB a2))] [.sc (.o 1 (W rU r))]:=by
 unfold A4u at h
 refine C4 A7 F9d V ?_
 simp only[cc451,A,B,C,E,F,J]
 obtain⟨n1,hn1,h⟩:=ob h
 try simp only[A,B,C,E,F,J]
 refine B3r (es:=W rU (zG n1 (0:P))) V V hn1 V (B1g V) V ?_
 try simp only[A,B,C,E,F,J]
 refine F7m _ _ _ _ _ _ _ h _ ?_
 try simp only[A,B,C,E,F,J,Y]
/- 393:math_bits_Len64 -/
def D2e:X2:= .seq (.reg [(L,.keep [0,2] [] [])]) (.seq (.reg [mv 19 2,mv 20 0,(L,.conv 21 .u8 (S 20)),(L,.idx 22 (KS [0,1,2,2,3,3,3,3,4,4,4,4,4,4,4,4,5,5,5,5,5,5,5,5,5,5,5,5,5,5,5,5,6,6,6,6,6,6,6,6,6,6,6,6,6,6,6,6,6,6,6,6,6,6,6,6,6,6,6,6,6,6,6,6,7,7,7,7,7,7,7,7,7,7,7,7,7,7,7,7,7,7,7,7,7,7,7,7,7,7,7,7,7,7,7,7,7,7,7,7,7,7,7,7,7,7,7,7,7,7,7,7,7,7,7,7,7,7,7,7,7,7,7,7,7,7,7,7,8,8,8,8,8,8,8,8,8,8,8,8,8,8,8,8,8,8,8,8,8,8,8,8,8,8,8,8,8,8,8,8,8,8,8,8,8,8,8,8,8,8,8,8,8,8,8,8,8,8,8,8,8,8,8,8,8,8,8,8,8,8,8,8,8,8,8,8,8,8,8,8,8,8,8,8,8,8,8,8,8,8,8,8,8,8,8,8,8,8,8,8,8,8,8,8,8,8,8,8,8,8,8,8,8,8,8,8,8,8,8,8,8,8,8,8,8,8,8,8,8,8,8,8,8,8,8,8]) (S 21)),(L,.conv 23 .i64 (S 22)),bn 24 .add 19 23,mv 2 24]) .ret)
def C5g:X2:= .seq (.reg [(L,.keep [0,2] [] [])]) (.seq (.seq (.reg [mv 13 0,(L,.bin 14 .geq (S 13) (.c (.v (.sc (.dat (.int .u64 256))))))]) (.cond (S 14) (.seq (.reg [mv 15 0,(L,.bin 16 .shr (S 15) (.c (.v (.sc (.dat (.int .u64 8)))))),mv 0 16]) (.reg [mv 17 2,(L,.bin 18 .add (S 17) (K 8)),mv 2 18])) .skip)) D2e)
def C5a:X2:= .seq (.reg [(L,.keep [0,2] [] [])]) (.seq (.seq (.reg [mv 7 0,(L,.bin 8 .geq (S 7) (.c (.v (.sc (.dat (.int .u64 65536))))))]) (.cond (S 8) (.seq (.reg [mv 9 0,(L,.bin 10 .shr (S 9) (.c (.v (.sc (.dat (.int .u64 16)))))),mv 0 10]) (.reg [mv 11 2,(L,.bin 12 .add (S 11) (K 16)),mv 2 12])) .skip)) C5g)
def cc459:X2:=(.seq (.reg [(L,.mv 2 (K 0))]) (.seq (.seq (.reg [mv 3 0,(L,.bin 4 .geq (S 3) (.c (.v (.sc (.dat (.int .u64 4294967296))))))]) (.cond (S 4) (.seq (.reg [mv 5 0,(L,.bin 6 .shr (S 5) (.c (.v (.sc (.dat (.int .u64 32)))))),mv 0 6]) (.reg [(L,.mv 2 (K 32))])) .skip)) C5a))
theorem E25(v8 v9 r:P)(h:Z0 v8 v9=H r)(σ:St)(hσ:σ.kept [0,2] [] []=⟨[(0,vc (.dat (.int .u64 v8))),(2,vc (aI v9))],[],[]⟩):go X (.code D2e:: []) (Ret [2] [.sc (.v (.int .i64 r))]) .normal (H σ):=by
 unfold Z0 at h
 obtain⟨b10,h10,h⟩:=ob h
 try simp only[hσ,h10,D2e,A,B,C,E,F,J]
 cases h
 trivial
theorem E2y(v5 v6 r:P)(h:A1q v5 v6=H r)(σ:St)(hσ:σ.kept [0,2] [] []=⟨[(0,vc (.dat (.int .u64 v5))),(2,vc (aI v6))],[],[]⟩):go X (.code C5g:: []) (Ret [2] [.sc (.v (.int .i64 r))]) .normal (H σ):=by
 unfold A1q at h
 rcases ic h with ⟨h7,h⟩|⟨h7,h⟩
 ·try simp only[hσ,h7,C5g,A,B,C,E,F,J]
  refine E25 _ _ _ h _ ?_
  try simp only[h7,A,B,C,E,F,J,Y]
 ·try simp only[hσ,h7,C5g,A,B,C,E,F,J]
  refine E25 _ _ _ h _ ?_
  try simp only[h7,A,B,C,E,F,J,Y]
theorem E2j(v2 v3 r:P)(h:A1r v2 v3=H r)(σ:St)(hσ:σ.kept [0,2] [] []=⟨[(0,vc (.dat (.int .u64 v2))),(2,vc (aI v3))],[],[]⟩):go X (.code C5a:: []) (Ret [2] [.sc (.v (.int .i64 r))]) .normal (H σ):=by
 unfold A1r at h
 rcases ic h with ⟨h4,h⟩|⟨h4,h⟩
 ·try simp only[hσ,h4,C5a,A,B,C,E,F,J]
  refine E2y _ _ _ h _ ?_
  try simp only[h4,A,B,C,E,F,J,Y]
 ·try simp only[hσ,h4,C5a,A,B,C,E,F,J]
  refine E2y _ _ _ h _ ?_
  try simp only[h4,A,B,C,E,F,J,Y]
theorem F13:A5 X 393=H (cc459.strip,[2],25):=by kernel_rfl
theorem B8f(a0 r:P)(h:A5e a0=H r):FC X 393 [.sc (.int .u64 a0)] [.sc (.v (.int .i64 r))]:=by
 unfold A5e at h
 refine C4 A7 F13 V ?_
 simp only[cc459,A,B,C,E,F,J]
 rcases ic h with ⟨h1,h⟩|⟨h1,h⟩
 ·try simp only[h1,A,B,C,E,F,J]
  refine E2j _ _ _ h _ ?_
  try simp only[h1,A,B,C,E,F,J,Y]
 ·try simp only[h1,A,B,C,E,F,J]
  refine E2j _ _ _ h _ ?_
  try simp only[h1,A,B,C,E,F,J,Y]
/- 380:math_bits_Len -/
def cc464:X2:=(.seq (.reg [(L,.mv 2 (K 0))]) (.seq (.cond (KB G) (.seq (.reg [mv 3 0,(L,.conv 4 .u32 (S 3)),ca 5 392 [S 4],mv 2 5]) .ret) .skip) (.seq (.reg [mv 6 0,ca 7 393 [S 6],mv 2 7]) .ret)))
theorem F5q:A5 X 380=H (cc464.strip,[2],8):=by kernel_rfl
theorem C0c(a0 r:P)(h:A2p a0=H r):FC X 380 [.sc (.int .u64 a0)] [.sc (.v (.int .i64 r))]:=by
 unfold A2p at h
 refine C4 A7 F5q V ?_
 simp only[cc464,A,B,C,E,F,J]
 obtain⟨r1,h1,h⟩:=ob h
 try simp only[A,B,C,E,F,J]
 refine A2 (B8f _ _ h1) V V (uf V) ?_
 try simp only[A,B,C,E,F,J]
 cases h
 trivial
/- 365:impl_leastPersons -/
def C5q:X2:= .seq (.reg [(L,.keep [0,3,4,5,6,7,8,9] [] [896,1024])]) (.seq (.reg [mv 81 9,(L,.bin 82 .eql (S 81) (K 0))]) (.cond (S 82) (.exit 2) .skip))
def D4r:X2:=(.reg [mv 55 9,(L,.bin 56 .sub (S 55) (K 1)),mv 57 8,bn 58 .and 56 57,mv 9 58])
def B71:X2:= .seq (.reg [(L,.keep [0,3,4,5,6,7,8,9] [] [896,1024])]) (.seq (.block 3 (.seq (.seq (.reg [mv 59 4,mv 60 9,mv 61 7,(L,.bin 62 .shl (K 1) (S 61)),bn 63 .or 60 62,ia 64 59 63 1,ld 65 64]) (.cond (S 65) (.drw [o0 (mv 66 5),o0 (mv 67 6),o0 (mv 68 5),o0 (mv 69 6),o0 (ia 70 68 69 1),o0 (ld 71 70),o0 (mv 72 5),o0 (mv 73 8),o0 (mv 74 9),o0 (bn 75 .andNot 73 74),o0 (ia 76 72 75 1),o0 (ld 77 76),o0 (L,.bin 78 .add (K 1) (S 77)),o0 (L,.mm 79 G (S 71) (S 78)),o0 (ia 80 66 67 1),(L,so 80 79 1)]) .skip)) C5q)) D4r)
def D23:X2:= .seq (.reg [(L,.keep [0,3,4,5,6,7,8] [] [896,1024])]) (.seq (.reg [mv 49 5,mv 50 6,mv 51 0,ln 52 51,ia 53 49 50 1,so 53 52 1]) (.seq (.reg [mv 54 8,mv 9 54]) (.block 2 (.loop B71))))
def B7b:X2:=(.reg [mv 22 6,(L,.bin 23 .add (S 22) (K 1)),mv 6 23])
def A8l:X2:= .seq (.reg [(L,.keep [0,3,4,5,6] [] [896,1024])]) (.seq (.seq (.reg [mv 19 6,mv 20 3,bn 21 .lss 19 20]) (.cond (S 21) .skip (.exit 0))) (.seq (.block 1 (.seq (.reg [mv 24 6,(L,.conv 25 .u64 (S 24)),ca 26 380 [S 25],(L,.bin 27 .sub (S 26) (K 1)),mv 7 27]) (.seq (.reg [mv 28 6,mv 29 7,(L,.bin 30 .shl (K 1) (S 29)),bn 31 .andNot 28 30,mv 8 31]) (.seq (.reg [mv 32 4,mv 33 6,mv 34 4,mv 35 8,ia 36 34 35 1,ld 37 36,mv 38 37,(H (38,T),.mv 39 (S 8)),(H (38,T),.conv 40 .u64 (S 39)),(H (38,T),.mv 41 (S 0)),(H (38,T),.mv 42 (S 7)),(H (38,T),.iaddr 43 (S 41) (S 42) 1),(H (38,T),.load 44 (S 43) G 1),(H (38,T),.bin 45 .andNot (S 40) (S 44)),(H (38,T),.bin 46 .eql (S 45) (.c (.v (.sc (.dat (.int .u64 0)))))),pa 47 38 46,ia 48 32 33 1,so 48 47 1]) D23)))) B7b))
def A9q:X2:=(.seq (.reg [mv 83 5,mv 84 3,(L,.bin 85 .sub (S 84) (K 1)),ia 86 83 85 1,ld 87 86,mv 2 87]) .ret)
def cc473:X2:=(.seq (.reg [(L,.mv 2 (K 0))]) (.seq (.reg [mv 10 0,ln 11 10,(L,.bin 12 .shl (K 1) (S 11)),mv 3 12]) (.seq (.reg [mv 13 3,(L,.mksl 14 1 1 [.bool G] (S 13) (S 13)),mv 4 14]) (.seq (.reg [mv 15 3,(L,.mksl 16 1 8 [.int .i64 0] (S 15) (S 15)),mv 5 16]) (.seq (.reg [mv 17 4,(L,.iaddr 18 (S 17) (K 0) 1),(L,.store (S 18) (KB T) 1)]) (.seq (.seq (.reg [(L,.mv 6 (K 1))]) (.block 0 (.loop A8l))) A9q))))))
theorem E2i(a0:N P)(y5 v6:P)(v17 v18 v21:P)(v19:N Q)(B8:P→(N Q)→(N P)→O P)(R7:∀(v6:P) (v7:N Q) (v8:N P) zr,B8 v6 v7 v8=H zr→∀σ:St,σ.kept [0,3,4,5,6] [] [896,1024]=⟨[(0,vc (aL (W rU a0))),(3,vc (aI y5)),(4,vc (.own 896)),(5,vc (.own 1024)),(6,vc (aI v6))],[],[(896,1,W rB v7),(1024,1,W rI v8)]⟩→go X (.code (.loop A8l):: [.blk 0,.code A9q]) (Ret [2] [.sc (.v (.int .i64 zr))]) .normal (H σ))(A2m:P→(N P)→O P)(B3g:∀(v21:P) (v22:N P) zr,A2m v21 v22=H zr→∀σ:St,σ.kept [0,3,4,5,6,7,8,9] [] [896,1024]=⟨[(0,vc (aL (W rU a0))),(3,vc (aI y5)),(4,vc (.own 896)),(5,vc (.own 1024)),(6,vc (aI v6)),(7,vc (aI v17)),(8,vc (aI v18)),(9,vc (aI v21))],[],[(896,1,W rB v19),(1024,1,W rI v22)]⟩→go X (.code (.loop B71):: [.blk 2,.blk 1,.code B7b,.code (.loop A8l),.blk 0,.code A9q]) (Ret [2] [.sc (.v (.int .i64 zr))]) .normal (H σ))(v28:N P)(r:P)(h:U1 a0 y5 v6 v17 v18 v21 v19 B8 A2m v28=H r)(σ:St)(hσ:σ.kept [0,3,4,5,6,7,8,9] [] [896,1024]=⟨[(0,vc (aL (W rU a0))),(3,vc (aI y5)),(4,vc (.own 896)),(5,vc (.own 1024)),(6,vc (aI v6)),(7,vc (aI v17)),(8,vc (aI v18)),(9,vc (aI v21))],[],[(896,1,W rB v19),(1024,1,W rI v28)]⟩):go X (.code C5q:: [.blk 3,.code D4r,.code (.loop B71),.blk 2,.blk 1,.code B7b,.code (.loop A8l),.blk 0,.code A9q]) (Ret [2] [.sc (.v (.int .i64 r))]) .normal (H σ):=by
 unfold U1 at h
 rcases ic h with ⟨h29,h⟩|⟨h29,h⟩
 ·try simp only[hσ,h29,C5q,B7b,A,B,C,E,F,J]
  refine R7 _ _ _ _ h _ ?_
  try simp only[h29,A,B,C,E,F,J,Y]
 ·try simp only[hσ,h29,C5q,D4r,A,B,C,E,F,J]
  refine B3g _ _ _ h _ ?_
  try simp only[h29,A,B,C,E,F,J,Y]
theorem F86(a0:N P)(y5 v6:P)(v17 v18:P)(v19:N Q)(B8:P→(N Q)→(N P)→O P)(R7:∀(v6:P) (v7:N Q) (v8:N P) zr,B8 v6 v7 v8=H zr→∀σ:St,σ.kept [0,3,4,5,6] [] [896,1024]=⟨[(0,vc (aL (W rU a0))),(3,vc (aI y5)),(4,vc (.own 896)),(5,vc (.own 1024)),(6,vc (aI v6))],[],[(896,1,W rB v7),(1024,1,W rI v8)]⟩→go X (.code (.loop A8l):: [.blk 0,.code A9q]) (Ret [2] [.sc (.v (.int .i64 zr))]) .normal (H σ)):∀(n:U) (v21:P) (v22:N P) (r:P),I3 a0 y5 v6 v17 v18 v19 B8 n v21 v22=H r→∀σ:St,σ.kept [0,3,4,5,6,7,8,9] [] [896,1024]=⟨[(0,vc (aL (W rU a0))),(3,vc (aI y5)),(4,vc (.own 896)),(5,vc (.own 1024)),(6,vc (aI v6)),(7,vc (aI v17)),(8,vc (aI v18)),(9,vc (aI v21))],[],[(896,1,W rB v19),(1024,1,W rI v22)]⟩→go X (.code (.loop B71):: [.blk 2,.blk 1,.code B7b,.code (.loop A8l),.blk 0,.code A9q]) (Ret [2] [.sc (.v (.int .i64 r))]) .normal (H σ):=by
 intro n
 induction n with
 | zero=>intro _ _ r h; cases h
 | succ n ih=>
  intro v21 v22 r h σ hσ
  rw[I3] at h
  refine B0 ?_
  obtain⟨h23,h⟩:=A1h h
  obtain⟨x24,h24,h⟩:=ob h
  have h24n:=N4 h24
  rcases ic h with ⟨h25,h⟩|⟨h25,h⟩
  ·try simp only[hσ,h23,h24,h24n,h25,B71,A,B,C,E,F,J]
   refine C3 V ?_
   obtain⟨x26,h26,h⟩:=ob h
   have h26n:=N4 h26
   obtain⟨x27,h27,h⟩:=ob h
   have h27n:=N4 h27
   try simp only[h23,h24,h24n,h25,h26,h26n,h27,h27n,A,B,C,E,F,J]
   refine A6c (row:=rI) (y:=(if(IntKind.i64.wrap ((1:P)+x27))<x26 then(IntKind.i64.wrap ((1:P)+x27)) else x26)) V V h26n V V (by rfl) ?_
   try simp only[h23,h24,h24n,h25,h26,h26n,h27,h27n,A,B,C,E,F,J]
   refine C3 V ?_
   try simp only[h23,h24,h24n,h25,h26,h26n,h27,h27n,A,B,C,E,F,J]
   refine E2i _ _ _ _ _ _ _ B8 R7 (I3 a0 y5 v6 v17 v18 v19 B8 n) ih _ _ h _ ?_
   try simp only[h23,h24,h24n,h25,h26,h26n,h27,h27n,A,B,C,E,F,J,Y]
  ·try simp only[hσ,h23,h24,h24n,h25,B71,A,B,C,E,F,J]
   refine E2i _ _ _ _ _ _ _ B8 R7 (I3 a0 y5 v6 v17 v18 v19 B8 n) ih _ _ h _ ?_
   try simp only[h23,h24,h24n,h25,A,B,C,E,F,J,Y]
theorem E2q(a0:N P)(y5 v6:P)(v8:N P)(B8:P→(N Q)→(N P)→O P)(R7:∀(v6:P) (v7:N Q) (v8:N P) zr,B8 v6 v7 v8=H zr→∀σ:St,σ.kept [0,3,4,5,6] [] [896,1024]=⟨[(0,vc (aL (W rU a0))),(3,vc (aI y5)),(4,vc (.own 896)),(5,vc (.own 1024)),(6,vc (aI v6))],[],[(896,1,W rB v7),(1024,1,W rI v8)]⟩→go X (.code (.loop A8l):: [.blk 0,.code A9q]) (Ret [2] [.sc (.v (.int .i64 zr))]) .normal (H σ))(v17 v18:P)(v19:N Q)(r:P)(h:U2 a0 y5 v6 v8 B8 v17 v18 v19=H r)(σ:St)(hσ:σ.kept [0,3,4,5,6,7,8] [] [896,1024]=⟨[(0,vc (aL (W rU a0))),(3,vc (aI y5)),(4,vc (.own 896)),(5,vc (.own 1024)),(6,vc (aI v6)),(7,vc (aI v17)),(8,vc (aI v18))],[],[(896,1,W rB v19),(1024,1,W rI v8)]⟩):go X (.code D23:: [.blk 1,.code B7b,.code (.loop A8l),.blk 0,.code A9q]) (Ret [2] [.sc (.v (.int .i64 r))]) .normal (H σ):=by
 unfold U2 at h
 obtain⟨x20,h20,h⟩:=ob h
 have h20n:=N4 h20
 try simp only[hσ,h20,D23,A,B,C,E,F,J]
 refine A6c (row:=rI) (y:=(a0.length:P)) V V h20n V V (by rfl) ?_
 try simp only[h20,A,B,C,E,F,J]
 refine F86 _ _ _ _ _ _ B8 R7 _ _ _ _ h _ ?_
 try simp only[h20,A,B,C,E,F,J,Y]
theorem F8t(a0:N P)(y5:P):∀(n:U) (v6:P) (v7:N Q) (v8:N P) (r:P),F8 a0 y5 n v6 v7 v8=H r→∀σ:St,σ.kept [0,3,4,5,6] [] [896,1024]=⟨[(0,vc (aL (W rU a0))),(3,vc (aI y5)),(4,vc (.own 896)),(5,vc (.own 1024)),(6,vc (aI v6))],[],[(896,1,W rB v7),(1024,1,W rI v8)]⟩→go X (.code (.loop A8l):: [.blk 0,.code A9q]) (Ret [2] [.sc (.v (.int .i64 r))]) .normal (H σ):=by
 intro n
 induction n with
 | zero=>intro _ _ _ r h; cases h
 | succ n ih=>
  intro v6 v7 v8 r h σ hσ
  rw[F8] at h
  refine B0 ?_
  rcases ic h with ⟨h9,h⟩|⟨h9,h⟩
  ·obtain⟨r10,h10,h⟩:=ob h
   try simp only[hσ,h9,A8l,A,B,C,E,F,J]
   refine A2 (C0c _ _ h10) V V (uf V) ?_
   obtain⟨h11,h⟩:=A1h h
   obtain⟨x12,h12,h⟩:=ob h
   have h12n:=N4 h12
   rcases ic h with ⟨h13,h⟩|⟨h13,h⟩
   ·obtain⟨x14,h14,h⟩:=ob h
    obtain⟨x15,h15,h⟩:=ob h
    have h15n:=N4 h15
    try simp only[h9,h11,h12,h12n,h13,h14,h15,A,B,C,E,F,J]
    refine A6c (row:=rB) (y:=((K5 .andNot .u64 (IntKind.u64.wrap (K5 .andNot .i64 v6 (A1j .i64 (1:P) (IntKind.i64.wrap (r10 - (1:P)))))) x14)==(0:P))) V V h15n V V (by rfl) ?_
    try simp only[h9,h11,h12,h12n,h13,h14,h15,A,B,C,E,F,J]
    refine E2q _ _ _ _ (F8 a0 y5 n) ih _ _ _ _ h _ ?_
    try simp only[h9,h11,h12,h12n,h13,h14,h15,A,B,C,E,F,J,Y]
   ·obtain⟨x16,h16,h⟩:=ob h
    have h16n:=N4 h16
    try simp only[h9,h11,h12,h12n,h13,h16,A,B,C,E,F,J]
    refine A6c (row:=rB) (y:=false) V V h16n V V (by rfl) ?_
    try simp only[h9,h11,h12,h12n,h13,h16,A,B,C,E,F,J]
    refine E2q _ _ _ _ (F8 a0 y5 n) ih _ _ _ _ h _ ?_
    try simp only[h9,h11,h12,h12n,h13,h16,A,B,C,E,F,J,Y]
  ·obtain⟨x30,h30,h⟩:=ob h
   have h30n:=N4 h30
   try simp only[hσ,h9,h30,h30n,A8l,A9q,A,B,C,E,F,J]
   cases h
   trivial
theorem F4b:A5 X 365=H (cc473.strip,[2],88):=by kernel_rfl
theorem B5i(a0:N P)(r:P)(h:A1n a0=H r):FC X 365 [.sc (.sl (W rU a0))] [.sc (.v (.int .i64 r))]:=by
 unfold A1n at h
 refine C4 A7 F4b V ?_
 simp only[cc473,A,B,C,E,F,J]
 obtain⟨h1,h⟩:=A1h h
 obtain⟨n2,hn2,h⟩:=ob h
 try simp only[h1,A,B,C,E,F,J]
 refine B3r (es:=W rB (zG n2 G)) V V hn2 V (B1g V) V ?_
 obtain⟨n3,hn3,h⟩:=ob h
 try simp only[h1,A,B,C,E,F,J]
 refine B3r (es:=W rI (zG n3 (0:P))) V V hn3 V (B1g V) V ?_
 obtain⟨x4,h4,h⟩:=ob h
 have h4n:=N4 h4
 try simp only[h1,h4,A,B,C,E,F,J]
 refine A6c (row:=rB) (y:=true) V V h4n V V (by rfl) ?_
 try simp only[h1,h4,A,B,C,E,F,J]
 refine F8t _ _ _ _ _ _ _ h _ ?_
 try simp only[h1,h4,A,B,C,E,F,J,Y]
/- 366:impl_coverer_cover -/
def C4z:X2:= .seq (.reg [(L,.keep [0,3,4] [99999999999] [90000,90001])]) (.seq (.reg [mv 109 0,(L,.nilc 110 (S 109)),fa 111 110 2,ld 112 111,mv 113 4,ia 114 112 113 1,ld 115 114,(L,.bin 116 .eql (S 115) (.c (.v (.sc (.dat (.int .u64 0))))))]) (.cond (S 116) (.seq (.reg [mv 117 0,mv 118 0,(L,.nilc 119 (S 118)),fa 120 119 2,ld 121 120,mv 122 4,(L,.slc 123 1 (S 121) L (H (S 122)) L),(L,.cut 123),(L,.nilc 124 (S 117)),fa 125 124 2,so 125 123 1]) (.exit 0)) .skip))
def D1d:X2:= .seq (.reg [(L,.keep [0,3,4] [99999999999] [90000,90001])]) (.seq (.seq (.drw [o0 (mv 50 0),o0 (L,.nilc 51 (S 50)),o0 (fa 52 51 2),o0 (ld 53 52),o0 (mv 54 4),o0 (ia 55 53 54 1),o0 (ld 56 55),o0 (mv 57 0),o0 (L,.nilc 58 (S 57)),o0 (fa 59 58 0),o0 (ld 60 59),o0 (mv 61 3),o0 (ia 62 60 61 1),o0 (ld 63 62),o0 (bn 64 .andNot 56 63),o0 (L,.bin 65 .eql (S 64) (.c (.v (.sc (.dat (.int .u64 0))))))]) (.cond (S 65) (.seq (.drw [o0 (mv 66 0),o0 (L,.nilc 67 (S 66)),o0 (fa 68 67 2),o0 (ld 69 68),o0 (mv 70 4),o0 (ia 71 69 70 1),o0 (ld 72 71),o0 (mv 73 3),o0 (L,.bin 74 .shl (.c (.v (.sc (.dat (.int .u64 1))))) (S 73)),o0 (bn 75 .or 72 74),o0 (ia 76 69 70 1),(L,so 76 75 1)]) (.seq (.reg [mv 77 0,mv 78 0,(L,.nilc 79 (S 78)),fa 80 79 3,ld 81 80,mv 82 4,(L,.bslice 83 1 [.int .i64 0] 1 [(0,(S 82))]),(L,.app 84 1 8 (S 81) (S 83)),(L,.nilc 85 (S 77)),fa 86 85 3,so 86 84 1]) (.seq (.seq (.reg [mv 87 0,ca 88 366 [S 87]]) (.cond (S 88) (.seq (.reg [(L,.mv 2 (KB T))]) .ret) .skip)) (.seq (.reg [mv 89 0,mv 90 0,(L,.nilc 91 (S 90)),fa 92 91 3,ld 93 92,mv 94 3,(L,.slc 95 1 (S 93) L (H (S 94)) L),(L,.cut 95),(L,.nilc 96 (S 89)),fa 97 96 3,so 97 95 1]) (.drw [o0 (mv 98 0),o0 (L,.nilc 99 (S 98)),o0 (fa 100 99 2),o0 (ld 101 100),o0 (mv 102 4),o0 (ia 103 101 102 1),o0 (ld 104 103),o0 (mv 105 3),o0 (L,.bin 106 .shl (.c (.v (.sc (.dat (.int .u64 1))))) (S 105)),o0 (bn 107 .andNot 104 106),o0 (ia 108 101 102 1),(L,so 108 107 1)]))))) .skip)) C4z)
def C5j:X2:=(.reg [mv 32 4,(L,.bin 33 .add (S 32) (K 1)),mv 4 33])
def A9n:X2:= .seq (.reg [(L,.keep [0,3,4] [99999999999] [90000,90001])]) (.seq (.seq (.reg [mv 17 4,mv 18 0,(L,.nilc 19 (S 18)),fa 20 19 2,ld 21 20,ln 22 21,bn 23 .leq 17 22,mv 24 23,(H (24,T),.mv 25 (S 4)),(H (24,T),.mv 26 (S 0)),(H (24,T),.nilc 27 (S 26)),(H (24,T),.faddr 28 (S 27) 1),(H (24,T),.load 29 (S 28) G 1),(H (24,T),.bin 30 .lss (S 25) (S 29)),pa 31 24 30]) (.cond (S 31) .skip (.exit 0))) (.seq (.block 1 (.seq (.seq (.reg [mv 34 4,mv 35 0,(L,.nilc 36 (S 35)),fa 37 36 2,ld 38 37,ln 39 38,bn 40 .eql 34 39]) (.cond (S 40) (.reg [mv 41 0,mv 42 0,(L,.nilc 43 (S 42)),fa 44 43 2,ld 45 44,(L,.bslice 46 1 [.int .u64 0] 1 [(0,(.c (.v (.sc (.dat (.int .u64 0))))))]),(L,.app 47 1 8 (S 45) (S 46)),(L,.nilc 48 (S 41)),fa 49 48 2,so 49 47 1]) .skip)) D1d)) C5j))
def B0w:X2:=(.seq (.reg [(L,.mv 2 (KB G))]) .ret)
def cc484:X2:=(.seq (.reg [(L,.mv 2 (KB G))]) (.seq (.reg [mv 5 0,(L,.nilc 6 (S 5)),fa 7 6 3,ld 8 7,ln 9 8,mv 3 9]) (.seq (.seq (.reg [mv 10 3,mv 11 0,(L,.nilc 12 (S 11)),fa 13 12 0,ld 14 13,ln 15 14,bn 16 .eql 10 15]) (.cond (S 16) (.seq (.reg [(L,.mv 2 (KB T))]) .ret) .skip)) (.seq (.seq (.reg [(L,.mv 4 (K 0))]) (.block 0 (.loop A9n))) B0w))))
theorem E2p(rec_:Xh→O (Q × Xh))(h_rec:∀(a0:Xh) zr,rec_ a0=H zr→FCz X 366 [.p] (L0 a0) (K7 a0) (L0 zr.2) (K7 zr.2) [.sc (.v (.bool zr.1))])(a0:Xh)(v2:P)(F3:P→(N P)→P→(N P)→(N P)→O (Q × Xh))(A1k:∀(v2:P) (v3:N P) (v4:P) (v5 v6:N P) zr,F3 v2 v3 v4 v5 v6=H zr→∀σ:St,σ.kept [0,3,4] [99999999999] [90000,90001]=⟨[(0,vc (.pb 99999999999 0)),(3,vc (aI (a0.who.length:P))),(4,vc (aI v2))],[(99999999999,[aL (W rU v3),aI v4,.own 90000,.own 90001])],[(90000,1,W rU v5),(90001,1,W rI v6)]⟩→go X (.code (.loop A9n):: [.blk 0,.code B0w]) (B0a [2] [.sc (.v (.bool zr.1))] (L0 zr.2) (K7 zr.2)) .normal (H σ))(v22:N P)(v23:P)(v24 v25:N P)(r:Q × Xh)(h:N8 rec_ a0 v2 F3 v22 v23 v24 v25=H r)(σ:St)(hσ:σ.kept [0,3,4] [99999999999] [90000,90001]=⟨[(0,vc (.pb 99999999999 0)),(3,vc (aI (a0.who.length:P))),(4,vc (aI v2))],[(99999999999,[aL (W rU v22),aI v23,.own 90000,.own 90001])],[(90000,1,W rU v24),(90001,1,W rI v25)]⟩):go X (.code C4z:: [.blk 1,.code C5j,.code (.loop A9n),.blk 0,.code B0w]) (B0a [2] [.sc (.v (.bool r.1))] (L0 r.2) (K7 r.2)) .normal (H σ):=by
 unfold N8 at h
 obtain⟨x26,h26,h⟩:=ob h
 have h26n:=N4 h26
 rcases ic h with ⟨h27,h⟩|⟨h27,h⟩
 ·obtain⟨p28,h28,h⟩:=ob h
  try simp only[hσ,h26,h26n,h27,C4z,A,B,C,E,F,J]
  refine A60 V V h28 (by rfl) ?_
  try simp only[h26,h26n,h27,B0w,A,B,C,E,F,J]
  cases h
  exact⟨⟨V,⟨⟩⟩,[90000,90001],by decide,by decide,V,V⟩
 ·try simp only[hσ,h26,h26n,h27,C4z,C5j,A,B,C,E,F,J]
  refine A1k _ _ _ _ _ _ h _ ?_
  try simp only[h26,h26n,h27,A,B,C,E,F,J,Y]
theorem E26(rec_:Xh→O (Q × Xh))(h_rec:∀(a0:Xh) zr,rec_ a0=H zr→FCz X 366 [.p] (L0 a0) (K7 a0) (L0 zr.2) (K7 zr.2) [.sc (.v (.bool zr.1))])(a0:Xh)(v2:P)(v3:N P)(v4:P)(v6:N P)(F3:P→(N P)→P→(N P)→(N P)→O (Q × Xh))(A1k:∀(v2:P) (v3:N P) (v4:P) (v5 v6:N P) zr,F3 v2 v3 v4 v5 v6=H zr→∀σ:St,σ.kept [0,3,4] [99999999999] [90000,90001]=⟨[(0,vc (.pb 99999999999 0)),(3,vc (aI (a0.who.length:P))),(4,vc (aI v2))],[(99999999999,[aL (W rU v3),aI v4,.own 90000,.own 90001])],[(90000,1,W rU v5),(90001,1,W rI v6)]⟩→go X (.code (.loop A9n):: [.blk 0,.code B0w]) (B0a [2] [.sc (.v (.bool zr.1))] (L0 zr.2) (K7 zr.2)) .normal (H σ))(v11:N P)(r:Q × Xh)(h:R6 rec_ a0 v2 v3 v4 v6 F3 v11=H r)(σ:St)(hσ:σ.kept [0,3,4] [99999999999] [90000,90001]=⟨[(0,vc (.pb 99999999999 0)),(3,vc (aI (a0.who.length:P))),(4,vc (aI v2))],[(99999999999,[aL (W rU v3),aI v4,.own 90000,.own 90001])],[(90000,1,W rU v11),(90001,1,W rI v6)]⟩):go X (.code D1d:: [.blk 1,.code C5j,.code (.loop A9n),.blk 0,.code B0w]) (B0a [2] [.sc (.v (.bool r.1))] (L0 r.2) (K7 r.2)) .normal (H σ):=by
 unfold R6 at h
 try simp only[hσ,D1d,A,B,C,E,F,J]
 refine C3 V ?_
 obtain⟨x12,h12,h⟩:=ob h
 have h12n:=N4 h12
 obtain⟨x13,h13,h⟩:=ob h
 rcases ic h with ⟨h14,h⟩|⟨h14,h⟩
 ·try simp only[h12,h12n,h13,h14,A,B,C,E,F,J]
  refine C3 V ?_
  obtain⟨h15,h⟩:=A1h h
  try simp only[h12,h12n,h13,h14,h15,A,B,C,E,F,J]
  refine A6c (row:=rU) (y:=(K5 .or .u64 x12 (A1j .u64 (1:P) (a0.who.length:P)))) V V h12n V V (by rfl) ?_
  try simp only[h12,h12n,h13,h14,h15,A,B,C,E,F,J]
  refine C3 V ?_
  try simp only[h12,h12n,h13,h14,h15,A,B,C,E,F,J]
  refine C7 (es:=W rI ([v2]:N P)) V V ?_
  obtain⟨h16,h⟩:=D3 h
  obtain⟨r17,h17,h⟩:=ob h
  try simp only[h12,h12n,h13,h14,h15,h16,A,B,C,E,F,J]
  refine A89 (h_rec _ _ h17) 99999999999 [90000,90001] rfl V V V (by decide) V V V ?_
  rcases ic h with ⟨h18,h⟩|⟨h18,h⟩
  ·try simp only[h12,h12n,h13,h14,h15,h16,h18,A,B,C,E,F,J]
   cases h
   exact⟨⟨V,⟨⟩⟩,[90000,90001],by decide,by decide,V,V⟩
  ·obtain⟨p19,h19,h⟩:=ob h
   try simp only[h12,h12n,h13,h14,h15,h16,h18,A,B,C,E,F,J]
   refine A60 V V h19 (by rfl) ?_
   try simp only[h12,h12n,h13,h14,h15,h16,h18,A,B,C,E,F,J]
   refine C3 V ?_
   obtain⟨x20,h20,h⟩:=ob h
   have h20n:=N4 h20
   obtain⟨h21,h⟩:=A1h h
   try simp only[h12,h12n,h13,h14,h15,h16,h18,h20,h20n,h21,A,B,C,E,F,J]
   refine A6c (row:=rU) (y:=(K5 .andNot .u64 x20 (A1j .u64 (1:P) (a0.who.length:P)))) V V h20n V V (by rfl) ?_
   try simp only[h12,h12n,h13,h14,h15,h16,h18,h20,h20n,h21,A,B,C,E,F,J]
   refine C3 V ?_
   try simp only[h12,h12n,h13,h14,h15,h16,h18,h20,h20n,h21,A,B,C,E,F,J]
   refine E2p rec_ h_rec _ _ F3 A1k _ _ _ _ _ h _ ?_
   try simp only[h12,h12n,h13,h14,h15,h16,h18,h20,h20n,h21,A,B,C,E,F,J,Y]
 ·try simp only[h12,h12n,h13,h14,A,B,C,E,F,J]
  refine E2p rec_ h_rec _ _ F3 A1k _ _ _ _ _ h _ ?_
  try simp only[h12,h12n,h13,h14,A,B,C,E,F,J,Y]
theorem F75(rec_:Xh→O (Q × Xh))(h_rec:∀(a0:Xh) zr,rec_ a0=H zr→FCz X 366 [.p] (L0 a0) (K7 a0) (L0 zr.2) (K7 zr.2) [.sc (.v (.bool zr.1))])(a0:Xh):∀(n:U) (v2:P) (v3:N P) (v4:P) (v5 v6:N P) (r:Q × Xh),G2 rec_ a0 n v2 v3 v4 v5 v6=H r→∀σ:St,σ.kept [0,3,4] [99999999999] [90000,90001]=⟨[(0,vc (.pb 99999999999 0)),(3,vc (aI (a0.who.length:P))),(4,vc (aI v2))],[(99999999999,[aL (W rU v3),aI v4,.own 90000,.own 90001])],[(90000,1,W rU v5),(90001,1,W rI v6)]⟩→go X (.code (.loop A9n):: [.blk 0,.code B0w]) (B0a [2] [.sc (.v (.bool r.1))] (L0 r.2) (K7 r.2)) .normal (H σ):=by
 intro n
 induction n with
 | zero=>intro _ _ _ _ _ r h; cases h
 | succ n ih=>
  intro v2 v3 v4 v5 v6 r h σ hσ
  rw[G2] at h
  refine B0 ?_
  rcases ic h with ⟨h7,h⟩|⟨h7,h⟩
  ·rcases ic h with ⟨h8,h⟩|⟨h8,h⟩
   ·rcases ic h with ⟨h9,h⟩|⟨h9,h⟩
    ·try simp only[hσ,h7,h8,h9,A9n,A,B,C,E,F,J]
     refine C7 (es:=W rU ([(0:P)]:N P)) V V ?_
     obtain⟨h10,h⟩:=D3 h
     try simp only[h7,h8,h9,h10,A,B,C,E,F,J]
     refine E26 rec_ h_rec _ _ _ _ _ (G2 rec_ a0 n) ih _ _ h _ ?_
     try simp only[h7,h8,h9,h10,A,B,C,E,F,J,Y]
    ·try simp only[hσ,h7,h8,h9,A9n,A,B,C,E,F,J]
     refine E26 rec_ h_rec _ _ _ _ _ (G2 rec_ a0 n) ih _ _ h _ ?_
     try simp only[h7,h8,h9,A,B,C,E,F,J,Y]
   ·try simp only[hσ,h7,h8,A9n,B0w,A,B,C,E,F,J]
    cases h
    exact⟨⟨V,⟨⟩⟩,[90000,90001],by decide,by decide,V,V⟩
  ·try simp only[hσ,h7,A9n,B0w,A,B,C,E,F,J]
   cases h
   exact⟨⟨V,⟨⟩⟩,[90000,90001],by decide,by decide,V,V⟩
theorem F6z:A5 X 366=H (cc484.strip,[2],126):=by kernel_rfl
theorem B26(rec_:Xh→O (Q × Xh))(a0:Xh)(r:Q × Xh)(h_rec:∀(a0:Xh) zr,rec_ a0=H zr→FCz X 366 [.p] (L0 a0) (K7 a0) (L0 zr.2) (K7 zr.2) [.sc (.v (.bool zr.1))])(h:Z2 rec_ a0=H r):FCz X 366 [.p] (L0 a0) (K7 a0) (L0 r.2) (K7 r.2) [.sc (.v (.bool r.1))]:=by
 unfold Z2 at h
 refine C63 (σ:=⟨[(0,vc (.pb 99999999999 0))],[(99999999999,[aL (W rU a0.sets),aI a0.most,.own 90000,.own 90001])],[(90000,1,W rU a0.groups),(90001,1,W rI a0.who)]⟩) A7 F6z V V V V ?_
 simp only[cc484]
 rcases ic h with ⟨h1,h⟩|⟨h1,h⟩
 ·try simp only[h1,A,B,C,E,F,J]
  cases h
  exact⟨⟨V,⟨⟩⟩,[90000,90001],by decide,by decide,V,V⟩
 ·try simp only[h1,A,B,C,E,F,J]
  refine F75 rec_ h_rec _ _ _ _ _ _ _ _ h _ ?_
  try simp only[h1,A,B,C,E,F,J,Y]
theorem B3a:∀(n:U) (a0:Xh) (r:Q × Xh),G0 n a0=H r→FCz X 366 [.p] (L0 a0) (K7 a0) (L0 r.2) (K7 r.2) [.sc (.v (.bool r.1))]:=by
 intro n
 induction n with
 | zero=>intro _ r h; cases h
 | succ n ih=>intro a0 r h; rw[G0] at h; exact B26 (G0 n) a0 r ih h
theorem B43(a0:Xh)(r:Q × Xh)(h:A52 a0=H r):FCz X 366 [.p] (L0 a0) (K7 a0) (L0 r.2) (K7 r.2) [.sc (.v (.bool r.1))]:=B3a bigN a0 r h
/- 336:impl_LeastCover -/
def cc489:X2:=(.seq (.reg [(L,.mv 6 KN),(L,.mv 7 (K 0)),(L,.mv 8 (KB G))]) (.seq (.seq (.reg [mv 11 0,mv 12 1,mv 13 2,ca 14 363 [S 11,S 12,S 13],nt 15 14]) (.cond (S 15) (.seq (.reg [(L,.mv 6 KN),(L,.mv 7 (K 0)),(L,.mv 8 (KB G))]) .ret) .skip)) (.seq (.reg [mv 16 0,mv 17 1,mv 18 2,ca 19 364 [S 16,S 17,S 18],mv 9 19]) (.seq (.reg [mv 20 9,mv 21 9,ca 22 365 [S 21],(L,.build 23 [.nil,aI 0,.nil,.nil] [(0,1,(S 20)),(1,1,(S 22))]),bo 24 23,(L,.ownb 24 2 152704 1),(L,.ownb 24 3 152768 1),mv 10 24]) (.seq (.reg [mv 25 10,(L,.frz 1216),ca 26 366 [S 25]]) (.seq (.drw [o0 (mv 27 10),o0 (L,.nilc 28 (S 27)),o0 (fa 29 28 3),o0 (ld 30 29),o0 (mv 31 10),o0 (L,.nilc 32 (S 31)),o0 (fa 33 32 1),o0 (ld 34 33),o0 (mv 6 30),o0 (mv 7 34),o0 (L,.mv 8 (KB T))]) .ret))))))
theorem F1f:A5 X 336=H (cc489.strip,[6,7,8],35):=by kernel_rfl
theorem B8c(a0:P)(a1:N P)(a2:N Xe)(r:(N P) × P × Q)(h:W6 a0 a1 a2=H r):FC X 336 [.sc (.int .i64 a0),.sc (.sl (W rI a1)),.sc (.sl (W zB a2))] [.sc (.o 1 (W rI r.1)),.sc (.v (.int .i64 r.2.1)),.sc (.v (.bool r.2.2))]:=by
 unfold W6 at h
 refine C4 A7 F1f V ?_
 simp only[cc489,A,B,C,E,F,J]
 obtain⟨r1,h1,h⟩:=ob h
 try simp only[A,B,C,E,F,J]
 refine A2 (B9e _ _ _ _ h1) V V (uf V) ?_
 rcases ic h with ⟨h2,h⟩|⟨h2,h⟩
 ·obtain⟨r3,h3,h⟩:=ob h
  try simp only[h2,A,B,C,E,F,J]
  refine A2 (C0u _ _ _ _ h3) V V (uf V) ?_
  obtain⟨r4,h4,h⟩:=ob h
  try simp only[h2,A,B,C,E,F,J]
  refine R4 (B5i _ _ h4) V (R5 V) V (uf V) ?_
  try simp only[h2,A,B,C,E,F,J]
  refine B2 V V V ?_
  try simp only[h2,A,B,C,E,F,J]
  refine A47 (cs':= [.own 1216,aI r4,.own 152704,.nil]) V V V V ?_
  try simp only[h2,A,B,C,E,F,J]
  refine A47 (cs':= [.own 1216,aI r4,.own 152704,.own 152768]) V V V V ?_
  try simp only[h2,A,B,C,E,F,J]
  refine O5 V ?_
  obtain⟨r5,h5,h⟩:=ob h
  try simp only[h2,A,B,C,E,F,J]
  refine A89 (B43 _ _ h5) 24 [152704,152768] rfl V V V (by decide) V V V ?_
  try simp only[h2,A,B,C,E,F,J]
  refine C3 V ?_
  try simp only[h2,A,B,C,E,F,J]
  cases h
  trivial
 ·try simp only[h2,A,B,C,E,F,J]
  cases h
  trivial
/- 280:impl_coverFits -/
def cc491:X2:=(.seq (.reg [(L,.mv 8 (KB G))]) (.seq (.seq (.reg [mv 12 2,ln 13 12,mv 14 3,bn 15 .leq 13 14]) (.cond (S 15) (.seq (.reg [(L,.mv 8 (KB T))]) .ret) .skip)) (.seq (.reg [mv 17 0,mv 18 1,mv 19 2,ca 20 336 [S 17,S 18,S 19],mv 16 20,xt 21 16 0,xt 22 16 1,xt 23 16 2,mv 9 21,mv 10 22,mv 11 23]) (.seq (.reg [mv 24 10,mv 25 3,bn 26 .leq 24 25,mv 8 26]) .ret))))
theorem F22:A5 X 280=H (cc491.strip,[8],27):=by kernel_rfl
theorem B10(a0:P)(a1:N P)(a2:N Xe)(a3:P)(r:Q)(h:A1y a0 a1 a2 a3=H r):FC X 280 [.sc (.int .i64 a0),.sc (.sl (W rI a1)),.sc (.sl (W zB a2)),.sc (.int .i64 a3)] [.sc (.v (.bool r))]:=by
 unfold A1y at h
 refine C4 A7 F22 V ?_
 simp only[cc491,A,B,C,E,F,J]
 rcases ic h with ⟨h1,h⟩|⟨h1,h⟩
 ·try simp only[h1,A,B,C,E,F,J]
  cases h
  trivial
 ·obtain⟨r2,h2,h⟩:=ob h
  try simp only[h1,A,B,C,E,F,J]
  refine A2 (B8c _ _ _ _ h2) V V (uf V) ?_
  try simp only[h1,A,B,C,E,F,J]
  cases h
  trivial
/- 202:impl_crewFits -/
def C5s:X2:= .seq (.reg [(L,.keep [2,5,6,13,14,15] [2] [704,768])]) (.seq (.reg [bn 16 .lss 15 14]) (.seq (.cond (S 16) .skip (.exit 0)) (.seq (.block 1 (.seq (.reg [ia 17 13 15 4,lw 18 17 4,(L,.alloc 8 [aI 0,aI 0,aI 0,.nil]),so 8 18 4]) (.seq (.reg [mv 19 5,fa 20 8 3,ld 21 20,(L,.app 22 5 40 (S 19) (S 21)),mv 5 22]) (.seq (.reg [fa 23 8 3,ld 24 23,ln 25 24,(L,.bin 26 .gtr (S 25) (K 0))]) (.cond (S 26) (.drw [(H [42,43],mv 27 6),o0 (fa 28 2 3),o0 (lw 29 28 2),o0 (fa 30 8 3),o0 (ld 31 30),o0 (L,.iaddr 32 (S 31) (K 0) 5),o0 (lw 33 32 5),o0 (fa 34 8 3),o0 (ld 35 34),o0 (fa 36 8 3),o0 (ld 37 36),o0 (ln 38 37),o0 (L,.bin 39 .sub (S 38) (K 1)),o0 (ia 40 35 39 5),o0 (lw 41 40 5),o0 (ca 42 278 [S 29,S 33,S 41]),o0 (L,.bslice 43 4 [.int .i64 0,.int .i64 0,.int .i64 0,.int .i64 0] 1 [(0,(S 42))]),(L,(L,.app 44 4 32 (S 27) (S 43))),o0 (mv 6 44)]) .skip))))) (.reg [(L,.bin 45 .add (S 15) (K 1)),mv 15 45]))))
def D5b:X2:=(.seq (.reg [fa 47 2 3,lw 48 47 2,fa 49 2 5,ld 50 49,mv 51 5,ca 52 279 [S 48,S 50,S 51],mv 46 52,xt 53 46 0,xt 54 46 1,mv 9 53,mv 10 54]) (.seq (.reg [mv 55 10,mv 56 55,(H (56,T),.faddr 57 (S 2) 8),(H (56,T),.faddr 58 (S 57) 3),(H (56,T),.load 59 (S 58) G 1),(H (56,T),.mv 60 (S 9)),(H (56,T),.faddr 61 (S 2) 8),(H (56,T),.faddr 62 (S 61) 0),(H (56,T),.load 63 (S 62) G 1),(H (56,T),.call 64 280 [(K 0),(S 59),(S 60),(S 63)]),pa 65 56 64,mv 66 65,(H (66,T),.faddr 67 (S 2) 8),(H (66,T),.faddr 68 (S 67) 2),(H (66,T),.load 69 (S 68) G 1),(H (66,T),.faddr 70 (S 2) 8),(H (66,T),.faddr 71 (S 70) 3),(H (66,T),.load 72 (S 71) G 1),(H (66,T),.mv 73 (S 6)),(H (66,T),.faddr 74 (S 2) 8),(H (66,T),.faddr 75 (S 74) 1),(H (66,T),.load 76 (S 75) G 1),(H (66,T),.call 77 280 [(S 69),(S 72),(S 73),(S 76)]),pa 78 66 77,mv 4 78]) .ret))
def cc495:X2:=(.seq (.reg [bo 2 0,(L,.mv 4 (KB G))]) (.seq (.reg [(L,.bslice 11 5 [.int .i64 0,.int .i64 0,.bool G,.int .i64 0,.int .i64 0] 0 []),(L,.bslice 12 4 [.int .i64 0,.int .i64 0,.int .i64 0,.int .i64 0] 0 []),mv 5 11,mv 6 12]) (.seq (.seq (.reg [mv 13 1,ln 14 13,(L,.mv 15 (K 0))]) (.block 0 (.loop C5s))) D5b)))
theorem F7t(a1:N X0)(a0:X6):∀(n:U) (v1:P) (v2:N X4) (v3:N Xe) (r:Q),S3 a1 a0 n v1 v2 v3=H r→∀σ:St,σ.kept [2,5,6,13,14,15] [2] [704,768]=⟨[(2,vc (.pb 2 0)),(5,vc (.own 704)),(6,vc (.own 768)),(13,vc (aL (W X0.row a1))),(14,vc (aI (a1.length:P))),(15,vc (aI v1))],[(2,(dm a0.row))],[(704,5,W X4.row v2),(768,4,W zB v3)]⟩→go X (.code (.loop C5s):: [.blk 0,.code D5b]) (Ret [4] [.sc (.v (.bool r))]) .normal (H σ):=by
 intro n
 induction n with
 | zero=>intro _ _ _ r h; cases h
 | succ n ih=>
  intro v1 v2 v3 r h σ hσ
  rw[S3] at h
  refine B0 ?_
  rcases ic h with ⟨h4,h⟩|⟨h4,h⟩
  ·obtain⟨x5,h5,h⟩:=ob h
   try simp only[hσ,h4,h5,C5s,A,B,C,E,F,J]
   refine D7 V V ?_
   obtain⟨h6,h⟩:=D3 h
   rcases ic h with ⟨h7,h⟩|⟨h7,h⟩
   ·try simp only[h4,h5,h6,h7,A,B,C,E,F,J]
    refine C3 V ?_
    obtain⟨x8,h8,h⟩:=ob h
    obtain⟨x9,h9,h⟩:=ob h
    obtain⟨r10,h10,h⟩:=ob h
    try simp only[h4,h5,h6,h7,h8,h9,A,B,C,E,F,J]
    refine F9 (B8w _ _ _ _ h10) V V (uf V) ?_
    try simp only[h4,h5,h6,h7,h8,h9,A,B,C,E,F,J]
    refine C7 (es:=W zB ([r10]:N Xe)) V V ?_
    obtain⟨h11,h⟩:=D3 h
    try simp only[h4,h5,h6,h7,h8,h9,h11,A,B,C,E,F,J]
    refine C3 V ?_
    try simp only[h4,h5,h6,h7,h8,h9,h11,A,B,C,E,F,J]
    refine ih _ _ _ _ h _ ?_
    try simp only[h4,h5,h6,h7,h8,h9,h11,A,B,C,E,F,J,Y]
   ·try simp only[h4,h5,h6,h7,A,B,C,E,F,J]
    refine ih _ _ _ _ h _ ?_
    try simp only[h4,h5,h6,h7,A,B,C,E,F,J,Y]
  ·obtain⟨r12,h12,h⟩:=ob h
   try simp only[hσ,h4,C5s,D5b,A,B,C,E,F,J]
   refine R4 (B9c _ _ _ _ h12) V (A7z V ⟨A7y,V,⟨⟩⟩) V (uf V) ?_
   rcases ic h with ⟨h13,h⟩|⟨h13,h⟩
   ·obtain⟨r14,h14,h⟩:=ob h
    try simp only[h4,h13,A,B,C,E,F,J]
    refine R4 (B10 _ _ _ _ _ h14) V (R5 V) V (uf V) ?_
    rcases ic h with ⟨h15,h⟩|⟨h15,h⟩
    ·obtain⟨r16,h16,h⟩:=ob h
     try simp only[h4,h13,h15,A,B,C,E,F,J]
     refine R4 (B10 _ _ _ _ _ h16) V (R5 V) V (uf V) ?_
     try simp only[h4,h13,h15,A,B,C,E,F,J]
     cases h
     trivial
    ·try simp only[h4,h13,h15,A,B,C,E,F,J]
     cases h
     trivial
   ·try simp only[h4,h13,A,B,C,E,F,J]
    cases h
    trivial
theorem F8f:A5 X 202=H (cc495.strip,[4],79):=by kernel_rfl
theorem C1t(a0:X6)(a1:N X0)(r:Q)(h:T6 a0 a1=H r):FC X 202 [.ag (X6.row a0),.sc (.sl (W X0.row a1))] [.sc (.v (.bool r))]:=by
 unfold T6 at h
 refine C4 A7 F8f V ?_
 simp only[cc495,A,B,C,E,F,J]
 try simp only[A,B,C,E,F,J]
 refine B2 V V V ?_
 try simp only[A,B,C,E,F,J]
 refine C7 (es:=W X4.row ([]:N X4)) V V ?_
 try simp only[A,B,C,E,F,J]
 refine C7 (es:=W zB ([]:N Xe)) V V ?_
 try simp only[A,B,C,E,F,J]
 refine F7t _ _ _ _ _ _ _ h _ ?_
 try simp only[A,B,C,E,F,J,Y]
/- 106:impl_fitsTo -/
def A1z:N (N U × AItem):= [([],(L,.load 25 (S 3) T 12)),([],(L,.mv 26 (S 1))),([1],(L,.call 27 203 [(S 26)])),([],(L,.load 28 (S 5) T 4)),([3],(L,.bslice 29 4 [.int .i64 0,.int .i64 0,.int .i64 0,.sl []] 1 [(0,(S 28))])),([2,4,2],(L,.app 30 4 48 (S 27) (S 29))),([0,5,5],(L,.call 31 202 [(S 25),(S 30)])),([6,6,0,1,2,3,4,5,6],(L,.mv 6 (S 31)))]
def C45:X2:= .seq (.reg [(L,.keep [1,3,5,9,10,11] [3,5] [])]) (.seq (.reg [bn 12 .lss 11 10]) (.seq (.cond (S 12) .skip (.exit 0)) (.seq (.block 1 (.seq (.reg [ia 13 9 11 4,lw 14 13 4,(L,.alloc 8 [aI 0,aI 0,aI 0,.nil]),so 8 14 4]) (.seq (.reg [fa 15 3 3,lw 16 15 2,fa 17 3 6,lw 18 17 2,fa 19 8 3,ld 20 19,fa 21 5 3,ld 22 21,ca 23 201 [S 16,S 18,S 20,S 22]]) (.cond (S 23) (.seq (.reg [(L,.mv 6 (KB G))]) .ret) .skip)))) (.reg [(L,.bin 24 .add (S 11) (K 1)),mv 11 24]))))
def D1x:X2:=(.seq (.any A1z) .ret)
def cc500:X2:=(.seq (.reg [bo 3 0,bo 5 2,(L,.mv 6 (KB G))]) (.seq (.seq (.reg [mv 9 1,ln 10 9,(L,.mv 11 (K 0))]) (.block 0 (.loop C45))) D1x))
abbrev E1(a1:N X0)(a0:X6)(a2:X0)(r9:Q)(wo2_:AV)(c0_ c1_:Q)(c2_ c3_:Q)(c4_ c5_:Q)(c6_ c7_:Q)(bx_:N (U × N AC))(rs_:Rows):St:=⟨[(1,vc (aL (W X0.row a1))),(3,vc (.pb 3 0)),(5,vc (.pb 5 0)),(25,bif c0_ then va (dm a0.row) else .undef),(26,bif c1_ then vc (aL (W X0.row a1)) else .undef),(27,bif c2_ then wo2_ else .undef),(28,bif c3_ then va (dm a2.row) else .undef),(29,bif c4_ then vc (.own 1856) else .undef),(30,bif c5_ then vc (.own 1728) else .undef),(31,bif c6_ then vc (aB r9) else .undef),(6,bif c7_ then vc (aB r9) else .undef)],bx_,rs_⟩
abbrev W4(a1:N X0)(a0:X6)(a2:X0)(r6:(N X0))(r9:Q):St:=(E1 a1 a0 a2 r9 (vc (.undef)) T T T T T T T T [(3,(dm a0.row)),(5,(dm a2.row))] [(1728,4,W X0.row (r6++([a2]:N X0))),(1856,4,W X0.row ([a2]:N X0))])
theorem F80(a1:N X0)(a0:X6)(a2:X0)(r6:(N X0))(r9:Q)(h6:J9 a1=H r6)(h7:(D1 r6.length ([a2]:N X0).length 48)=T)(h9:T6 a0 (r6++([a2]:N X0))=H r9):∀(f:U) (b0 b6 b7:Q),E3 X A1z (W4 a1 a0 a2 r6 r9) f [b0,T,T,T,T,T,b6,b7] (E1 a1 a0 a2 r9 (vc (.undef)) b0 T T T T T b6 b7 [(3,(dm a0.row)),(5,(dm a2.row))] [(1728,4,W X0.row (r6++([a2]:N X0))),(1856,4,W X0.row ([a2]:N X0))]):=by
 intro f
 induction f with
 | zero=>
  intro b0 b6 b7 h
  obtain rfl:b0=T:=Z.1 h b0 (by simp)
  obtain rfl:b6=T:=Z.1 h b6 (by simp)
  obtain rfl:b7=T:=Z.1 h b7 (by simp)
  rfl
 | succ f ih=>
  intro b0 b6 b7
  refine B3 ⟨?_,?_,?_,?_,?_,?_,?_,?_,⟨⟩⟩<;>try first | (intro h; cases h; done) | (intro h0 hw; obtain rfl:=hz h0 rfl; (try obtain rfl:=hq hw 0 rfl rfl); (try obtain rfl:=hq hw 6 rfl rfl); refine np ?_; simp only[E1,cdt,cdf,A1,A,B,C,E,F,J]; exact ih _ _ _)
  ·intro h0 hw
   obtain rfl:=hz h0 rfl
   obtain rfl:=hq hw 0 rfl rfl
   refine np ?_
   try simp only[E1,cdt,cdf,A1,A,B,C,E,F,J]
   refine R4 (C1t _ _ _ h9) V (R5 V) (by simp only[St.fresh,I,zA,P8]; simp[AV.cells,V1.cells,AC.uses]) (uf V) ?_
   try simp only[A1,A,B,C,E,F,J]
   exact ih T T b7
theorem E2k(a1:N X0)(a0:X6)(a2:X0)(r6:(N X0))(r9:Q)(h6:J9 a1=H r6)(h7:(D1 r6.length ([a2]:N X0).length 48)=T)(h9:T6 a0 (r6++([a2]:N X0))=H r9):∀(f:U) (b0:Q),E3 X A1z (W4 a1 a0 a2 r6 r9) f [b0,T,T,T,T,G,G,G] (E1 a1 a0 a2 r9 (vc (.own 1728)) b0 T T T T G G G [(3,(dm a0.row)),(5,(dm a2.row))] [(1728,4,W X0.row r6),(1856,4,W X0.row ([a2]:N X0))]):=by
 intro f
 induction f with
 | zero=>intro b0 h; simp at h
 | succ f ih=>
  intro b0
  refine B3 ⟨?_,?_,?_,?_,?_,?_,?_,?_,⟨⟩⟩<;>try first | (intro h; cases h; done) | (intro _ hw; simp at hw; done) | (intro h0 hw; obtain rfl:=hz h0 rfl; refine np ?_; simp only[E1,cdt,cdf,A1,A,B,C,E,F,J]; exact ih _)
  ·intro h0 hw
   refine np ?_
   try simp only[h7,E1,cdt,cdf,A1,A,B,C,E,F,J]
   exact F80 a1 a0 a2 r6 r9 h6 h7 h9 _ b0 G G
theorem F4p(a1:N X0)(a0:X6)(a2:X0)(r6:(N X0))(r9:Q)(h6:J9 a1=H r6)(h7:(D1 r6.length ([a2]:N X0).length 48)=T)(h9:T6 a0 (r6++([a2]:N X0))=H r9):∀(f:U) (b0 b3:Q),E3 X A1z (W4 a1 a0 a2 r6 r9) f [b0,T,T,b3,G,G,G,G] (E1 a1 a0 a2 r9 (vc (.own 1728)) b0 T T b3 G G G G [(3,(dm a0.row)),(5,(dm a2.row))] [(1728,4,W X0.row r6)]):=by
 intro f
 induction f with
 | zero=>intro b0 b3 h; simp at h
 | succ f ih=>
  intro b0 b3
  refine B3 ⟨?_,?_,?_,?_,?_,?_,?_,?_,⟨⟩⟩<;>try first | (intro h; cases h; done) | (intro _ hw; simp at hw; done) | (intro h0 hw; obtain rfl:=hz h0 rfl; refine np ?_; simp only[E1,cdt,cdf,A1,A,B,C,E,F,J]; exact ih _ _)
  ·intro h0 hw
   obtain rfl:=hq hw 3 rfl rfl
   refine np ?_
   try simp only[E1,cdt,cdf,A1,A,B,C,E,F,J]
   refine C7 (es:=W X0.row ([a2]:N X0)) V (by simp only[St.fresh,I,zA,P8]; simp[AV.cells,V1.cells,AC.uses]) ?_
   try simp only[A1,A,B,C,E,F,J]
   exact E2k a1 a0 a2 r6 r9 h6 h7 h9 _ b0
theorem F8l(a1:N X0)(a0:X6)(a2:X0)(r6:(N X0))(r9:Q)(h6:J9 a1=H r6)(h7:(D1 r6.length ([a2]:N X0).length 48)=T)(h9:T6 a0 (r6++([a2]:N X0))=H r9):∀(f:U) (b0 b1:Q),E3 X A1z (W4 a1 a0 a2 r6 r9) f [b0,b1,G,T,T,G,G,G] (E1 a1 a0 a2 r9 (vc (.own 1728)) b0 b1 G T T G G G [(3,(dm a0.row)),(5,(dm a2.row))] [(1856,4,W X0.row ([a2]:N X0))]):=by
 intro f
 induction f with
 | zero=>intro b0 b1 h; simp at h
 | succ f ih=>
  intro b0 b1
  refine B3 ⟨?_,?_,?_,?_,?_,?_,?_,?_,⟨⟩⟩<;>try first | (intro h; cases h; done) | (intro _ hw; simp at hw; done) | (intro h0 hw; obtain rfl:=hz h0 rfl; refine np ?_; simp only[E1,cdt,cdf,A1,A,B,C,E,F,J]; exact ih _ _)
  ·intro h0 hw
   obtain rfl:=hq hw 1 rfl rfl
   refine⟨[],[(L,.keep [1,3,5,25,26,27,28,29,30,31,6] [3,5] [1728,1856])],V,V,?_⟩
   try simp only[E1,cdt,cdf,zD,zC,A1,A,B,C,E,F,J]
   refine A2 (A80 _ _ h6) V (by simp only[St.fresh,I,zA,P8]; simp[AV.cells,V1.cells,AC.uses]) (uf V) ?_
   try simp only[A1,A,B,C,E,F,J]
   exact E2k a1 a0 a2 r6 r9 h6 h7 h9 _ b0
theorem F43(a1:N X0)(a0:X6)(a2:X0)(r6:(N X0))(r9:Q)(h6:J9 a1=H r6)(h7:(D1 r6.length ([a2]:N X0).length 48)=T)(h9:T6 a0 (r6++([a2]:N X0))=H r9):∀(f:U) (b0 b1 b3:Q),E3 X A1z (W4 a1 a0 a2 r6 r9) f [b0,b1,G,b3,G,G,G,G] (E1 a1 a0 a2 r9 (vc (.own 1728)) b0 b1 G b3 G G G G [(3,(dm a0.row)),(5,(dm a2.row))] []):=by
 intro f
 induction f with
 | zero=>intro b0 b1 b3 h; simp at h
 | succ f ih=>
  intro b0 b1 b3
  refine B3 ⟨?_,?_,?_,?_,?_,?_,?_,?_,⟨⟩⟩<;>try first | (intro _ hw; simp at hw; done) | (intro h0 hw; obtain rfl:=hz h0 rfl; refine np ?_; simp only[E1,cdt,cdf,A1,A,B,C,E,F,J]; exact ih _ _ _)
  ·intro h0 hw
   obtain rfl:=hq hw 1 rfl rfl
   refine np ?_
   try simp only[E1,cdt,cdf,A1,A,B,C,E,F,J]
   refine A2 (A80 _ _ h6) V (by simp only[St.fresh,I,zA,P8]; simp[AV.cells,V1.cells,AC.uses]) (uf V) ?_
   try simp only[A1,A,B,C,E,F,J]
   exact F4p a1 a0 a2 r6 r9 h6 h7 h9 _ b0 b3
  ·intro h0 hw
   obtain rfl:=hq hw 3 rfl rfl
   refine np ?_
   try simp only[E1,cdt,cdf,A1,A,B,C,E,F,J]
   refine C7 (es:=W X0.row ([a2]:N X0)) V (by simp only[St.fresh,I,zA,P8]; simp[AV.cells,V1.cells,AC.uses]) ?_
   try simp only[A1,A,B,C,E,F,J]
   exact F8l a1 a0 a2 r6 r9 h6 h7 h9 _ b0 b1
theorem F8q(a1:N X0)(a0:X6)(a2:X0):∀(n:U) (v1:P) (r:Q),A06 a1 a0 a2 n v1=H r→∀σ:St,σ.kept [1,3,5,9,10,11] [3,5] []=⟨[(1,vc (aL (W X0.row a1))),(3,vc (.pb 3 0)),(5,vc (.pb 5 0)),(9,vc (aL (W X0.row a1))),(10,vc (aI (a1.length:P))),(11,vc (aI v1))],[(3,(dm a0.row)),(5,(dm a2.row))],[]⟩→go X (.code (.loop C45):: [.blk 0,.code D1x]) (Ret [6] [.sc (.v (.bool r))]) .normal (H σ):=by
 intro n
 induction n with
 | zero=>intro _ r h; cases h
 | succ n ih=>
  intro v1 r h σ hσ
  rw[A06] at h
  refine B0 ?_
  rcases ic h with ⟨h2,h⟩|⟨h2,h⟩
  ·obtain⟨x3,h3,h⟩:=ob h
   try simp only[hσ,h2,h3,C45,A,B,C,E,F,J]
   refine D7 V V ?_
   obtain⟨r4,h4,h⟩:=ob h
   try simp only[h2,h3,A,B,C,E,F,J]
   refine A2 (C2x _ _ _ _ _ h4) V V (uf V) ?_
   rcases ic h with ⟨h5,h⟩|⟨h5,h⟩
   ·try simp only[h2,h3,h5,A,B,C,E,F,J]
    cases h
    trivial
   ·try simp only[h2,h3,h5,A,B,C,E,F,J]
    refine ih _ _ h _ ?_
    try simp only[h2,h3,h5,A,B,C,E,F,J,Y]
  ·try simp only[hσ,h2,C45,D1x,A,B,C,E,F,J]
   obtain⟨r6,h6,h⟩:=ob h
   obtain⟨h7,h⟩:=D3 h
   obtain⟨r9,h9,h⟩:=ob h
   refine A4w (ks:= [1,3,5]) (bs:= [3,5]) (rs:= []) (τ:=(W4 a1 a0 a2 r6 r9)) V (F43 a1 a0 a2 r6 r9 h6 h7 h9 _ G G G) ?_
   simp only[W4,E1,cdt]
   try simp only[h2,h7,A,B,C,E,F,J]
   cases h
   trivial
theorem F1m:A5 X 106=H (cc500.strip,[6],32):=by kernel_rfl
theorem B47(a0:X6)(a1:N X0)(a2:X0)(r:Q)(h:A2v a0 a1 a2=H r):FC X 106 [.ag (X6.row a0),.sc (.sl (W X0.row a1)),.ag (X0.row a2)] [.sc (.v (.bool r))]:=by
 unfold A2v at h
 refine C4 A7 F1m V ?_
 simp only[cc500,A,B,C,E,F,J]
 try simp only[A,B,C,E,F,J]
 refine B2 V V V ?_
 try simp only[A,B,C,E,F,J]
 refine B2 V V V ?_
 try simp only[A,B,C,E,F,J]
 refine F8q _ _ _ _ _ _ h _ ?_
 try simp only[A,B,C,E,F,J,Y]
/- 179:impl_planner_search -/
def O8:N (N U × AItem):= [([],(L,.mv 40 (S 0))),([],(L,.mv 41 (S 0))),([],(L,.mv 42 (S 0))),([],(L,.mv 43 (S 0))),([3],(L,.nilc 44 (S 43))),([4],(L,.faddr 45 (S 44) 15)),([5],(L,.load 46 (S 45) G 1)),([6],(L,.call 47 121 [(S 46)])),([],(L,.load 48 (S 2) T 2)),([0,0,3,4,5,6,7],(L,.nilc 49 (S 40))),([9,0,3,4,5,6,7],(L,.faddr 50 (S 49) 16)),([10,7,7,0,3,4,5,6,7],(L,.store (S 50) (S 47) 1)),([1,0,1,3,4,5,6,7,8,9,10,11],(L,.nilc 51 (S 41))),([12,0,1,3,4,5,6,7,8,9,10,11],(L,.faddr 52 (S 51) 17)),([13,8,11,0,1,3,4,5,6,7,8,9,10,11],(L,.store (S 52) (S 48) 2)),([2,0,1,2,3,4,5,6,7,8,9,10,11,12,13,14],(L,.nilc 53 (S 42))),([15,0,1,2,3,4,5,6,7,8,9,10,11,12,13,14],(L,.faddr 54 (S 53) 19)),([16,14,0,1,2,3,4,5,6,7,8,9,10,11,12,13,14],(L,.store (S 54) (KB T) 1))]
def G1:N (N U × AItem):= [([],(L,.mv 79 (S 0))),([],(L,.mv 80 (S 0))),([],(L,.mv 81 (S 0))),([2],(L,.nilc 82 (S 81))),([3],(L,.faddr 83 (S 82) 14)),([4],(L,.load 84 (S 83) G 1)),([],(L,.load 85 (S 5) T 4)),([6],(L,.bslice 86 4 [.int .i64 0,.int .i64 0,.int .i64 0,.sl []] 1 [(0,(S 85))])),([5,7],(L,.app 87 4 48 (S 84) (S 86))),([],(L,.mv 88 (S 0))),([9],(L,.nilc 89 (S 88))),([10],(L,.faddr 90 (S 89) 15)),([11],(L,.load 91 (S 90) G 1)),([],(L,.mv 92 (S 4))),([13],(L,.bslice 93 1 [.int .i64 0] 1 [(0,(S 92))])),([12,14,8],(L,.app 94 1 8 (S 91) (S 93))),([0,0,2,3,4,5,6,7,8,12,15],(L,.nilc 95 (S 79))),([16,0,2,3,4,5,6,7,8,12,15],(L,.faddr 96 (S 95) 14)),([17,8,15,0,2,3,4,5,6,7,8,12,15],(L,.store (S 96) (S 87) 1)),([1,0,1,2,3,4,5,6,7,8,9,10,11,12,13,14,15,16,17,18],(L,.nilc 97 (S 80))),([19,0,1,2,3,4,5,6,7,8,9,10,11,12,13,14,15,16,17,18],(L,.faddr 98 (S 97) 15)),([20,15,18,0,1,2,3,4,5,6,7,8,9,10,11,12,13,14,15,16,17,18],(L,.store (S 98) (S 94) 1))]
def J6:N (N U × AItem):= [([],(L,.mv 101 (S 0))),([],(L,.mv 102 (S 0))),([],(L,.mv 103 (S 0))),([2],(L,.nilc 104 (S 103))),([3],(L,.faddr 105 (S 104) 14)),([4],(L,.load 106 (S 105) G 1)),([],(L,.mv 107 (S 3))),([5,6],(L,.slc 108 4 (S 106) L (H (S 107)) L)),([],(L,.mv 109 (S 0))),([8],(L,.nilc 110 (S 109))),([9],(L,.faddr 111 (S 110) 15)),([10],(L,.load 112 (S 111) G 1)),([],(L,.mv 113 (S 3))),([11,12],(L,.slc 114 1 (S 112) L (H (S 113)) L)),([0,0,2,3,4,5,6,7,11],(L,.nilc 115 (S 101))),([14,0,2,3,4,5,6,7,11],(L,.faddr 116 (S 115) 14)),([15,7,0,2,3,4,5,6,7,11],(L,.store (S 116) (S 108) 1)),([1,0,1,2,3,4,5,6,7,8,9,10,11,12,13,14,15,16],(L,.nilc 117 (S 102))),([17,0,1,2,3,4,5,6,7,8,9,10,11,12,13,14,15,16],(L,.faddr 118 (S 117) 15)),([18,13,16,0,1,2,3,4,5,6,7,8,9,10,11,12,13,14,15,16],(L,.store (S 118) (S 114) 1))]
def C5h:X2:= .seq (.reg [(L,.keep [0,3,61,62,63] [99999999999] [90000,90001,90002])]) (.seq (.reg [bn 64 .lss 63 62]) (.seq (.cond (S 64) .skip (.exit 0)) (.seq (.block 1 (.seq (.reg [mv 65 63,ia 66 61 63 4,lw 67 66 4,(L,.alloc 5 [aI 0,aI 0,aI 0,.nil]),mv 4 65,so 5 67 4]) (.seq (.seq (.drw [o0 (mv 68 0),o0 (L,.nilc 69 (S 68)),o0 (fa 70 69 0),o0 (lw 71 70 12),o0 (mv 72 0),o0 (L,.nilc 73 (S 72)),o0 (fa 74 73 14),o0 (ld 75 74),o0 (lw 76 5 4),o0 (ca 77 106 [S 71,S 75,S 76]),o0 (nt 78 77)]) (.cond (S 78) (.exit 1) .skip)) (.seq (.any G1) (.seq (.cal [mv 99 0] 100 179 [(S 99)]) (.any J6)))))) (.reg [(L,.bin 119 .add (S 63) (K 1)),mv 63 119]))))
def C6l:X2:= .seq (.reg [(L,.keep [0,2] [99999999999,2] [90000,90001,90002])]) (.seq (.reg [mv 28 0,(L,.nilc 29 (S 28)),fa 30 29 14,ld 31 30,ln 32 31,mv 3 32]) (.seq (.seq (.reg [mv 33 3,mv 34 0,(L,.nilc 35 (S 34)),fa 36 35 12,ld 37 36,ln 38 37,bn 39 .eql 33 38]) (.cond (S 39) (.seq (.any O8) .ret) .skip)) (.seq (.reg [mv 55 0,(L,.nilc 56 (S 55)),fa 57 56 12,ld 58 57,mv 59 3,ia 60 58 59 1,ld 61 60,ln 62 61,(L,.mv 63 (K 0))]) (.block 0 (.loop C5h)))))
def cc510:X2:=(.seq (.drw [(H [2],mv 6 0),(H [2],(L,.nilc 7 (S 6))),(H [2],fa 8 7 13),(H [2],ld 9 8),(H [2],mv 10 0),(H [2],(L,.nilc 11 (S 10))),(H [2],fa 12 11 14),(H [2],ld 13 12),(H [2],(L,.callv 14 (S 9) [(S 13)])),(H [14],(L,.alloc 2 [aI 0,aI 0])),(L,so 2 14 2)]) (.seq (.seq (.drw [o0 (mv 15 0),o0 (L,.nilc 16 (S 15)),o0 (fa 17 16 19),o0 (ld 18 17),o0 (mv 19 18),o0 (H (19,T),.load 20 (S 2) T 2),o0 (H (19,T),.mv 21 (S 0)),o0 (H (19,T),.nilc 22 (S 21)),o0 (H (19,T),.faddr 23 (S 22) 17),o0 (H (19,T),.load 24 (S 23) T 2),o0 (H (19,T),.call 25 265 [(S 20),(S 24)]),o0 (H (19,T),.un 26 .not (S 25)),o0 (pa 27 19 26)]) (.cond (S 27) .ret .skip)) C6l))
abbrev D0(r1:Xj)(c0_ c1_:Q)(c2_ c3_:Q)(c4_ c5_:Q)(c6_ c7_:Q)(c8_ c9_:Q)(c10_ c12_:Q)(c13_ c15_ c16_:Q)(bx_:N (U × N AC))(rs_:Rows):St:=⟨[(0,vc (.pb 99999999999 0)),(2,vc (.pb 2 0)),(40,bif c0_ then vc (.pb 99999999999 0) else .undef),(41,bif c1_ then vc (.pb 99999999999 0) else .undef),(42,bif c2_ then vc (.pb 99999999999 0) else .undef),(43,bif c3_ then vc (.pb 99999999999 0) else .undef),(44,bif c4_ then vc (.pb 99999999999 0) else .undef),(45,bif c5_ then vc (.pb 99999999999 15) else .undef),(46,bif c6_ then vc (.own 90001) else .undef),(47,bif c7_ then vc (.own 3008) else .undef),(48,bif c8_ then va [aI r1.i0,aI r1.i1] else .undef),(49,bif c9_ then vc (.pb 99999999999 0) else .undef),(50,bif c10_ then vc (.pb 99999999999 16) else .undef),(51,bif c12_ then vc (.pb 99999999999 0) else .undef),(52,bif c13_ then vc (.pb 99999999999 17) else .undef),(53,bif c15_ then vc (.pb 99999999999 0) else .undef),(54,bif c16_ then vc (.pb 99999999999 19) else .undef)],bx_,rs_⟩
abbrev K6(F_w0:FuncId)(caps_w0:N D)(a0:Xd)(r1:Xj)(r7:(N P)):St:=(D0 r1 T T T T T T T T T T T T T T T [(99999999999,(dm a0.h.row++ [aL (W (rL X0.row) a0.choices),.dat (.clo F_w0 caps_w0),.own 90000,.own 90001,.own 3008,aI r1.i0,aI r1.i1,aB T])),(2,[aI r1.i0,aI r1.i1])] [(90000,4,W X0.row a0.plan),(90001,1,W rI a0.choice),(90002,1,W rI a0.best),(3008,1,W rI r7)])
theorem F8z(F_w0:FuncId)(caps_w0:N D)(a0:Xd)(r1:Xj)(v5:Q)(r7:(N P))(h7:D6 a0.choice=H r7):∀(f:U) (b15:Q),E3 X O8 (K6 F_w0 caps_w0 a0 r1 r7) f [T,T,T,T,T,T,T,T,T,T,T,T,T,T,T,b15,T,T] (D0 r1 T T T T T T T T T T T T T b15 T [(99999999999,(dm a0.h.row++ [aL (W (rL X0.row) a0.choices),.dat (.clo F_w0 caps_w0),.own 90000,.own 90001,.own 3008,aI r1.i0,aI r1.i1,aB T])),(2,[aI r1.i0,aI r1.i1])] [(90000,4,W X0.row a0.plan),(90001,1,W rI a0.choice),(90002,1,W rI a0.best),(3008,1,W rI r7)]):=by
 intro f
 induction f with
 | zero=>
  intro b15 h
  obtain rfl:b15=T:=Z.1 h b15 (by simp)
  rfl
 | succ f ih=>
  intro b15
  refine B3 ⟨?_,?_,?_,?_,?_,?_,?_,?_,?_,?_,?_,?_,?_,?_,?_,?_,?_,?_,⟨⟩⟩<;>try first | (intro h; cases h; done) | (intro h0 hw; obtain rfl:=hz h0 rfl; refine np ?_; simp only[D0,cdt,cdf,A1,A,B,C,E,F,J]; exact ih _)
theorem F36(F_w0:FuncId)(caps_w0:N D)(a0:Xd)(r1:Xj)(v5:Q)(r7:(N P))(h7:D6 a0.choice=H r7):∀(f:U) (b2 b12:Q) (b15 b16:Q),E3 X O8 (K6 F_w0 caps_w0 a0 r1 r7) f [T,T,b2,T,T,T,T,T,T,T,T,T,b12,T,T,b15,b16,G] (D0 r1 T T b2 T T T T T T T T b12 T b15 b16 [(99999999999,(dm a0.h.row++ [aL (W (rL X0.row) a0.choices),.dat (.clo F_w0 caps_w0),.own 90000,.own 90001,.own 3008,aI r1.i0,aI r1.i1,aB v5])),(2,[aI r1.i0,aI r1.i1])] [(90000,4,W X0.row a0.plan),(90001,1,W rI a0.choice),(90002,1,W rI a0.best),(3008,1,W rI r7)]):=by
 intro f
 induction f with
 | zero=>intro b2 b12 b15 b16 h; simp at h
 | succ f ih=>
  intro b2 b12 b15 b16
  refine B3 ⟨?_,?_,?_,?_,?_,?_,?_,?_,?_,?_,?_,?_,?_,?_,?_,?_,?_,?_,⟨⟩⟩<;>try first | (intro h; cases h; done) | (intro h0 hw; obtain rfl:=hz h0 rfl; (try obtain rfl:=hq hw 2 rfl rfl); (try obtain rfl:=hq hw 12 rfl rfl); (try obtain rfl:=hq hw 15 rfl rfl); refine np ?_; simp only[D0,cdt,cdf,A1,A,B,C,E,F,J]; exact ih _ _ _ _)
  ·intro h0 hw
   obtain rfl:=hq hw 2 rfl rfl
   obtain rfl:=hq hw 12 rfl rfl
   obtain rfl:=hq hw 16 rfl rfl
   refine np ?_
   try simp only[D0,cdt,cdf,A1,A,B,C,E,F,J]
   exact F8z F_w0 caps_w0 a0 r1 v5 r7 h7 _ b15
theorem F49(F_w0:FuncId)(caps_w0:N D)(a0:Xd)(r1:Xj)(v5:Q)(r7:(N P))(h7:D6 a0.choice=H r7):∀(f:U) (b1 b2:Q) (b8 b9:Q) (b12 b13:Q),E3 X O8 (K6 F_w0 caps_w0 a0 r1 r7) f [T,b1,b2,T,T,T,T,T,b8,b9,T,T,b12,b13,G,G,G,G] (D0 r1 T b1 b2 T T T T T b8 b9 T b12 b13 G G [(99999999999,(dm a0.h.row++ [aL (W (rL X0.row) a0.choices),.dat (.clo F_w0 caps_w0),.own 90000,.own 90001,.own 3008,aI a0.least.i0,aI a0.least.i1,aB v5])),(2,[aI r1.i0,aI r1.i1])] [(90000,4,W X0.row a0.plan),(90001,1,W rI a0.choice),(90002,1,W rI a0.best),(3008,1,W rI r7)]):=by
 intro f
 induction f with
 | zero=>intro b1 b2 b8 b9 b12 b13 h; simp at h
 | succ f ih=>
  intro b1 b2 b8 b9 b12 b13
  refine B3 ⟨?_,?_,?_,?_,?_,?_,?_,?_,?_,?_,?_,?_,?_,?_,?_,?_,?_,?_,⟨⟩⟩<;>try first | (intro h; cases h; done) | (intro _ hw; simp at hw; done) | (intro h0 hw; obtain rfl:=hz h0 rfl; (try obtain rfl:=hq hw 1 rfl rfl); (try obtain rfl:=hq hw 8 rfl rfl); (try obtain rfl:=hq hw 9 rfl rfl); (try obtain rfl:=hq hw 12 rfl rfl); refine np ?_; simp only[D0,cdt,cdf,A1,A,B,C,E,F,J]; exact ih _ _ _ _ _ _)
  ·intro h0 hw
   obtain rfl:=hq hw 1 rfl rfl
   obtain rfl:=hq hw 8 rfl rfl
   obtain rfl:=hq hw 9 rfl rfl
   obtain rfl:=hq hw 13 rfl rfl
   refine np ?_
   try simp only[D0,cdt,cdf,A1,A,B,C,E,F,J]
   exact F36 F_w0 caps_w0 a0 r1 v5 r7 h7 _ b2 b12 G G
theorem F7p(F_w0:FuncId)(caps_w0:N D)(a0:Xd)(r1:Xj)(v5:Q)(r7:(N P))(h7:D6 a0.choice=H r7):∀(f:U) (b0 b1:Q) (b2 b3:Q) (b4 b5:Q) (b8 b9 b10:Q),E3 X O8 (K6 F_w0 caps_w0 a0 r1 r7) f [b0,b1,b2,b3,b4,b5,T,T,b8,b9,b10,G,G,G,G,G,G,G] (D0 r1 b0 b1 b2 b3 b4 b5 T T b8 b9 b10 G G G G [(99999999999,(dm a0.h.row++ [aL (W (rL X0.row) a0.choices),.dat (.clo F_w0 caps_w0),.own 90000,.own 90001,.own 90002,aI a0.least.i0,aI a0.least.i1,aB v5])),(2,[aI r1.i0,aI r1.i1])] [(90000,4,W X0.row a0.plan),(90001,1,W rI a0.choice),(90002,1,W rI a0.best),(3008,1,W rI r7)]):=by
 intro f
 induction f with
 | zero=>intro b0 b1 b2 b3 b4 b5 b8 b9 b10 h; simp at h
 | succ f ih=>
  intro b0 b1 b2 b3 b4 b5 b8 b9 b10
  refine B3 ⟨?_,?_,?_,?_,?_,?_,?_,?_,?_,?_,?_,?_,?_,?_,?_,?_,?_,?_,⟨⟩⟩<;>try first | (intro h; cases h; done) | (intro _ hw; simp at hw; done) | (intro h0 hw; obtain rfl:=hz h0 rfl; (try obtain rfl:=hq hw 0 rfl rfl); (try obtain rfl:=hq hw 3 rfl rfl); (try obtain rfl:=hq hw 4 rfl rfl); (try obtain rfl:=hq hw 5 rfl rfl); (try obtain rfl:=hq hw 9 rfl rfl); refine np ?_; simp only[D0,cdt,cdf,A1,A,B,C,E,F,J]; exact ih _ _ _ _ _ _ _ _ _)
  ·intro h0 hw
   obtain rfl:=hq hw 0 rfl rfl
   obtain rfl:=hq hw 3 rfl rfl
   obtain rfl:=hq hw 4 rfl rfl
   obtain rfl:=hq hw 5 rfl rfl
   obtain rfl:=hq hw 10 rfl rfl
   refine np ?_
   try simp only[D0,cdt,cdf,A1,A,B,C,E,F,J]
   exact F49 F_w0 caps_w0 a0 r1 v5 r7 h7 _ b1 b2 b8 b9 G G
theorem F6g(F_w0:FuncId)(caps_w0:N D)(a0:Xd)(r1:Xj)(v5:Q)(r7:(N P))(h7:D6 a0.choice=H r7):∀(f:U) (b0 b1:Q) (b2 b3:Q) (b4 b5:Q) (b6 b8:Q),E3 X O8 (K6 F_w0 caps_w0 a0 r1 r7) f [b0,b1,b2,b3,b4,b5,b6,G,b8,G,G,G,G,G,G,G,G,G] (D0 r1 b0 b1 b2 b3 b4 b5 b6 G b8 G G G G G G [(99999999999,(dm a0.h.row++ [aL (W (rL X0.row) a0.choices),.dat (.clo F_w0 caps_w0),.own 90000,.own 90001,.own 90002,aI a0.least.i0,aI a0.least.i1,aB v5])),(2,[aI r1.i0,aI r1.i1])] [(90000,4,W X0.row a0.plan),(90001,1,W rI a0.choice),(90002,1,W rI a0.best)]):=by
 intro f
 induction f with
 | zero=>intro b0 b1 b2 b3 b4 b5 b6 b8 h; simp at h
 | succ f ih=>
  intro b0 b1 b2 b3 b4 b5 b6 b8
  refine B3 ⟨?_,?_,?_,?_,?_,?_,?_,?_,?_,?_,?_,?_,?_,?_,?_,?_,?_,?_,⟨⟩⟩<;>try first | (intro _ hw; simp at hw; done) | (intro h0 hw; obtain rfl:=hz h0 rfl; (try obtain rfl:=hq hw 3 rfl rfl); (try obtain rfl:=hq hw 4 rfl rfl); (try obtain rfl:=hq hw 5 rfl rfl); refine np ?_; simp only[D0,cdt,cdf,A1,A,B,C,E,F,J]; exact ih _ _ _ _ _ _ _ _)
  ·intro h0 hw
   obtain rfl:=hq hw 6 rfl rfl
   refine np ?_
   try simp only[D0,cdt,cdf,A1,A,B,C,E,F,J]
   refine R4 (A57 _ _ h7) V (A7z V ⟨A7y,⟨⟩⟩) (by simp only[St.fresh,I,zA,P8]; simp[AV.cells,V1.cells,AC.uses]) (uf V) ?_
   try simp only[A1,A,B,C,E,F,J]
   exact F7p F_w0 caps_w0 a0 r1 v5 r7 h7 _ b0 b1 b2 b3 b4 b5 b8 G G
abbrev A6(a0:Xd)(x8:N X0)(v9:P)(x19:X0)(wo5_ wo12_:AV)(c0_ c1_:Q)(c2_ c3_:Q)(c4_ c5_:Q)(c6_ c7_:Q)(c8_ c9_:Q)(c10_ c11_:Q)(c12_ c13_:Q)(c14_ c15_:Q)(c16_ c17_:Q)(c19_ c20_:Q)(bx_:N (U × N AC))(rs_:Rows):St:=⟨[(0,vc (.pb 99999999999 0)),(3,vc (aI (a0.plan.length:P))),(4,vc (aI v9)),(5,vc (.pb 5 0)),(61,vc (aL (W X0.row x8))),(62,vc (aI (x8.length:P))),(63,vc (aI v9)),(79,bif c0_ then vc (.pb 99999999999 0) else .undef),(80,bif c1_ then vc (.pb 99999999999 0) else .undef),(81,bif c2_ then vc (.pb 99999999999 0) else .undef),(82,bif c3_ then vc (.pb 99999999999 0) else .undef),(83,bif c4_ then vc (.pb 99999999999 14) else .undef),(84,bif c5_ then wo5_ else .undef),(85,bif c6_ then va (dm x19.row) else .undef),(86,bif c7_ then vc (.own 5504) else .undef),(87,bif c8_ then vc (.own 90000) else .undef),(88,bif c9_ then vc (.pb 99999999999 0) else .undef),(89,bif c10_ then vc (.pb 99999999999 0) else .undef),(90,bif c11_ then vc (.pb 99999999999 15) else .undef),(91,bif c12_ then wo12_ else .undef),(92,bif c13_ then vc (aI v9) else .undef),(93,bif c14_ then vc (.own 5952) else .undef),(94,bif c15_ then vc (.own 90001) else .undef),(95,bif c16_ then vc (.pb 99999999999 0) else .undef),(96,bif c17_ then vc (.pb 99999999999 14) else .undef),(97,bif c19_ then vc (.pb 99999999999 0) else .undef),(98,bif c20_ then vc (.pb 99999999999 15) else .undef)],bx_,rs_⟩
abbrev E8(F_w0:FuncId)(caps_w0:N D)(a0:Xd)(x8:N X0)(v9:P)(v10:X6)(v11:N (N X0))(v12 v13:P)(v14:Q)(v15:N X0)(v16 v17:N P)(x19:X0):St:=(A6 a0 x8 v9 x19 (vc (.undef)) (vc (.undef)) T T T T T T T T T T T T T T T T T T T T [(99999999999,(dm v10.row++ [aL (W (rL X0.row) v11),.dat (.clo F_w0 caps_w0),.own 90000,.own 90001,.own 90002,aI v12,aI v13,aB v14])),(5,(dm x19.row))] [(90000,4,W X0.row (v15++([x19]:N X0))),(90001,1,W rI (v16++([v9]:N P))),(90002,1,W rI v17),(5504,4,W X0.row ([x19]:N X0)),(5952,1,W rI ([v9]:N P))])
theorem F6x(F_w0:FuncId)(caps_w0:N D)(a0:Xd)(x8:N X0)(v9:P)(v10:X6)(v11:N (N X0))(v12 v13:P)(v14:Q)(v15:N X0)(v16 v17:N P)(x19:X0)(h22:(D1 v15.length ([x19]:N X0).length 48)=T)(h23:(D1 v16.length ([v9]:N P).length 8)=T):∀(f:U) (b19:Q),E3 X G1 (E8 F_w0 caps_w0 a0 x8 v9 v10 v11 v12 v13 v14 v15 v16 v17 x19) f [T,T,T,T,T,T,T,T,T,T,T,T,T,T,T,T,T,T,T,b19,T,T] (A6 a0 x8 v9 x19 (vc (.undef)) (vc (.undef)) T T T T T T T T T T T T T T T T T T b19 T [(99999999999,(dm v10.row++ [aL (W (rL X0.row) v11),.dat (.clo F_w0 caps_w0),.own 90000,.own 90001,.own 90002,aI v12,aI v13,aB v14])),(5,(dm x19.row))] [(90000,4,W X0.row (v15++([x19]:N X0))),(90001,1,W rI (v16++([v9]:N P))),(90002,1,W rI v17),(5504,4,W X0.row ([x19]:N X0)),(5952,1,W rI ([v9]:N P))]):=by
 intro f
 induction f with
 | zero=>
  intro b19 h
  obtain rfl:b19=T:=Z.1 h b19 (by simp)
  rfl
 | succ f ih=>
  intro b19
  refine B3 ⟨?_,?_,?_,?_,?_,?_,?_,?_,?_,?_,?_,?_,?_,?_,?_,?_,?_,?_,?_,?_,?_,?_,⟨⟩⟩<;>try first | (intro h; cases h; done) | (intro h0 hw; obtain rfl:=hz h0 rfl; refine np ?_; simp only[A6,cdt,cdf,A1,A,B,C,E,F,J]; exact ih _)
theorem F2h(F_w0:FuncId)(caps_w0:N D)(a0:Xd)(x8:N X0)(v9:P)(v10:X6)(v11:N (N X0))(v12 v13:P)(v14:Q)(v15:N X0)(v16 v17:N P)(x19:X0)(h22:(D1 v15.length ([x19]:N X0).length 48)=T)(h23:(D1 v16.length ([v9]:N P).length 8)=T):∀(f:U) (b1 b9:Q) (b10 b11:Q) (b16 b19 b20:Q),E3 X G1 (E8 F_w0 caps_w0 a0 x8 v9 v10 v11 v12 v13 v14 v15 v16 v17 x19) f [T,b1,T,T,T,T,T,T,T,b9,b10,b11,T,T,T,T,b16,T,T,b19,b20,G] (A6 a0 x8 v9 x19 (vc (.undef)) (vc (.undef)) T b1 T T T T T T T b9 b10 b11 T T T T b16 T b19 b20 [(99999999999,(dm v10.row++ [aL (W (rL X0.row) v11),.dat (.clo F_w0 caps_w0),.own 90000,.undef,.own 90002,aI v12,aI v13,aB v14])),(5,(dm x19.row))] [(90000,4,W X0.row (v15++([x19]:N X0))),(90001,1,W rI (v16++([v9]:N P))),(90002,1,W rI v17),(5504,4,W X0.row ([x19]:N X0)),(5952,1,W rI ([v9]:N P))]):=by
 intro f
 induction f with
 | zero=>intro b1 b9 b10 b11 b16 b19 b20 h; simp at h
 | succ f ih=>
  intro b1 b9 b10 b11 b16 b19 b20
  refine B3 ⟨?_,?_,?_,?_,?_,?_,?_,?_,?_,?_,?_,?_,?_,?_,?_,?_,?_,?_,?_,?_,?_,?_,⟨⟩⟩<;>try first | (intro h; cases h; done) | (intro h0 hw; obtain rfl:=hz h0 rfl; (try obtain rfl:=hq hw 1 rfl rfl); (try obtain rfl:=hq hw 9 rfl rfl); (try obtain rfl:=hq hw 10 rfl rfl); (try obtain rfl:=hq hw 11 rfl rfl); (try obtain rfl:=hq hw 16 rfl rfl); (try obtain rfl:=hq hw 19 rfl rfl); refine np ?_; simp only[A6,cdt,cdf,A1,A,B,C,E,F,J]; exact ih _ _ _ _ _ _ _)
  ·intro h0 hw
   obtain rfl:=hq hw 1 rfl rfl
   obtain rfl:=hq hw 9 rfl rfl
   obtain rfl:=hq hw 10 rfl rfl
   obtain rfl:=hq hw 11 rfl rfl
   obtain rfl:=hq hw 16 rfl rfl
   obtain rfl:=hq hw 20 rfl rfl
   refine np ?_
   try simp only[A6,cdt,cdf,A1,A,B,C,E,F,J]
   exact F6x F_w0 caps_w0 a0 x8 v9 v10 v11 v12 v13 v14 v15 v16 v17 x19 h22 h23 _ b19
theorem F3f(F_w0:FuncId)(caps_w0:N D)(a0:Xd)(x8:N X0)(v9:P)(v10:X6)(v11:N (N X0))(v12 v13:P)(v14:Q)(v15:N X0)(v16 v17:N P)(x19:X0)(h22:(D1 v15.length ([x19]:N X0).length 48)=T)(h23:(D1 v16.length ([v9]:N P).length 8)=T):∀(f:U) (b0 b1:Q) (b2 b3:Q) (b4 b9:Q) (b10 b11:Q) (b16 b17:Q),E3 X G1 (E8 F_w0 caps_w0 a0 x8 v9 v10 v11 v12 v13 v14 v15 v16 v17 x19) f [b0,b1,b2,b3,b4,T,T,T,T,b9,b10,b11,T,T,T,T,b16,b17,G,G,G,G] (A6 a0 x8 v9 x19 (vc (.undef)) (vc (.undef)) b0 b1 b2 b3 b4 T T T T b9 b10 b11 T T T T b16 b17 G G [(99999999999,(dm v10.row++ [aL (W (rL X0.row) v11),.dat (.clo F_w0 caps_w0),.undef,.undef,.own 90002,aI v12,aI v13,aB v14])),(5,(dm x19.row))] [(90000,4,W X0.row (v15++([x19]:N X0))),(90001,1,W rI (v16++([v9]:N P))),(90002,1,W rI v17),(5504,4,W X0.row ([x19]:N X0)),(5952,1,W rI ([v9]:N P))]):=by
 intro f
 induction f with
 | zero=>intro b0 b1 b2 b3 b4 b9 b10 b11 b16 b17 h; simp at h
 | succ f ih=>
  intro b0 b1 b2 b3 b4 b9 b10 b11 b16 b17
  refine B3 ⟨?_,?_,?_,?_,?_,?_,?_,?_,?_,?_,?_,?_,?_,?_,?_,?_,?_,?_,?_,?_,?_,?_,⟨⟩⟩<;>try first | (intro h; cases h; done) | (intro _ hw; simp at hw; done) | (intro h0 hw; obtain rfl:=hz h0 rfl; (try obtain rfl:=hq hw 0 rfl rfl); (try obtain rfl:=hq hw 2 rfl rfl); (try obtain rfl:=hq hw 3 rfl rfl); (try obtain rfl:=hq hw 4 rfl rfl); (try obtain rfl:=hq hw 9 rfl rfl); (try obtain rfl:=hq hw 10 rfl rfl); (try obtain rfl:=hq hw 16 rfl rfl); refine np ?_; simp only[A6,cdt,cdf,A1,A,B,C,E,F,J]; exact ih _ _ _ _ _ _ _ _ _ _)
  ·intro h0 hw
   obtain rfl:=hq hw 0 rfl rfl
   obtain rfl:=hq hw 2 rfl rfl
   obtain rfl:=hq hw 3 rfl rfl
   obtain rfl:=hq hw 4 rfl rfl
   obtain rfl:=hq hw 17 rfl rfl
   refine np ?_
   try simp only[A6,cdt,cdf,A1,A,B,C,E,F,J]
   exact F2h F_w0 caps_w0 a0 x8 v9 v10 v11 v12 v13 v14 v15 v16 v17 x19 h22 h23 _ b1 b9 b10 b11 b16 G G
theorem E3b(F_w0:FuncId)(caps_w0:N D)(a0:Xd)(x8:N X0)(v9:P)(v10:X6)(v11:N (N X0))(v12 v13:P)(v14:Q)(v15:N X0)(v16 v17:N P)(x19:X0)(h22:(D1 v15.length ([x19]:N X0).length 48)=T)(h23:(D1 v16.length ([v9]:N P).length 8)=T):∀(f:U) (b0 b1:Q) (b2 b3:Q) (b4 b9:Q) (b10 b11 b12:Q),E3 X G1 (E8 F_w0 caps_w0 a0 x8 v9 v10 v11 v12 v13 v14 v15 v16 v17 x19) f [b0,b1,b2,b3,b4,T,T,T,T,b9,b10,b11,b12,T,T,G,G,G,G,G,G,G] (A6 a0 x8 v9 x19 (vc (.undef)) (vc (.own 90001)) b0 b1 b2 b3 b4 T T T T b9 b10 b11 b12 T T G G G G G [(99999999999,(dm v10.row++ [aL (W (rL X0.row) v11),.dat (.clo F_w0 caps_w0),.undef,.own 90001,.own 90002,aI v12,aI v13,aB v14])),(5,(dm x19.row))] [(90000,4,W X0.row (v15++([x19]:N X0))),(90001,1,W rI v16),(90002,1,W rI v17),(5504,4,W X0.row ([x19]:N X0)),(5952,1,W rI ([v9]:N P))]):=by
 intro f
 induction f with
 | zero=>intro b0 b1 b2 b3 b4 b9 b10 b11 b12 h; simp at h
 | succ f ih=>
  intro b0 b1 b2 b3 b4 b9 b10 b11 b12
  refine B3 ⟨?_,?_,?_,?_,?_,?_,?_,?_,?_,?_,?_,?_,?_,?_,?_,?_,?_,?_,?_,?_,?_,?_,⟨⟩⟩<;>try first | (intro h; cases h; done) | (intro _ hw; simp at hw; done) | (intro h0 hw; obtain rfl:=hz h0 rfl; (try obtain rfl:=hq hw 2 rfl rfl); (try obtain rfl:=hq hw 3 rfl rfl); (try obtain rfl:=hq hw 9 rfl rfl); (try obtain rfl:=hq hw 10 rfl rfl); (try obtain rfl:=hq hw 11 rfl rfl); refine np ?_; simp only[A6,cdt,cdf,A1,A,B,C,E,F,J]; exact ih _ _ _ _ _ _ _ _ _)
  ·intro h0 hw
   obtain rfl:=hq hw 12 rfl rfl
   refine np ?_
   try simp only[h23,A6,cdt,cdf,A1,A,B,C,E,F,J]
   exact F3f F_w0 caps_w0 a0 x8 v9 v10 v11 v12 v13 v14 v15 v16 v17 x19 h22 h23 _ b0 b1 b2 b3 b4 b9 b10 b11 G G
theorem F2r(F_w0:FuncId)(caps_w0:N D)(a0:Xd)(x8:N X0)(v9:P)(v10:X6)(v11:N (N X0))(v12 v13:P)(v14:Q)(v15:N X0)(v16 v17:N P)(x19:X0)(h22:(D1 v15.length ([x19]:N X0).length 48)=T)(h23:(D1 v16.length ([v9]:N P).length 8)=T):∀(f:U) (b0 b1:Q) (b2 b3:Q) (b4 b9:Q) (b10 b11:Q) (b12 b13:Q),E3 X G1 (E8 F_w0 caps_w0 a0 x8 v9 v10 v11 v12 v13 v14 v15 v16 v17 x19) f [b0,b1,b2,b3,b4,T,T,T,T,b9,b10,b11,b12,b13,G,G,G,G,G,G,G,G] (A6 a0 x8 v9 x19 (vc (.undef)) (vc (.own 90001)) b0 b1 b2 b3 b4 T T T T b9 b10 b11 b12 b13 G G G G G G [(99999999999,(dm v10.row++ [aL (W (rL X0.row) v11),.dat (.clo F_w0 caps_w0),.undef,.own 90001,.own 90002,aI v12,aI v13,aB v14])),(5,(dm x19.row))] [(90000,4,W X0.row (v15++([x19]:N X0))),(90001,1,W rI v16),(90002,1,W rI v17),(5504,4,W X0.row ([x19]:N X0))]):=by
 intro f
 induction f with
 | zero=>intro b0 b1 b2 b3 b4 b9 b10 b11 b12 b13 h; simp at h
 | succ f ih=>
  intro b0 b1 b2 b3 b4 b9 b10 b11 b12 b13
  refine B3 ⟨?_,?_,?_,?_,?_,?_,?_,?_,?_,?_,?_,?_,?_,?_,?_,?_,?_,?_,?_,?_,?_,?_,⟨⟩⟩<;>try first | (intro h; cases h; done) | (intro _ hw; simp at hw; done) | (intro h0 hw; obtain rfl:=hz h0 rfl; (try obtain rfl:=hq hw 2 rfl rfl); (try obtain rfl:=hq hw 3 rfl rfl); (try obtain rfl:=hq hw 9 rfl rfl); (try obtain rfl:=hq hw 10 rfl rfl); (try obtain rfl:=hq hw 11 rfl rfl); refine np ?_; simp only[A6,cdt,cdf,A1,A,B,C,E,F,J]; exact ih _ _ _ _ _ _ _ _ _ _)
  ·intro h0 hw
   obtain rfl:=hq hw 13 rfl rfl
   refine np ?_
   try simp only[A6,cdt,cdf,A1,A,B,C,E,F,J]
   refine C7 (es:=W rI ([v9]:N P)) V (by simp only[St.fresh,I,zA,P8]; simp[AV.cells,V1.cells,AC.uses]) ?_
   try simp only[A1,A,B,C,E,F,J]
   exact E3b F_w0 caps_w0 a0 x8 v9 v10 v11 v12 v13 v14 v15 v16 v17 x19 h22 h23 _ b0 b1 b2 b3 b4 b9 b10 b11 b12
theorem E24(F_w0:FuncId)(caps_w0:N D)(a0:Xd)(x8:N X0)(v9:P)(v10:X6)(v11:N (N X0))(v12 v13:P)(v14:Q)(v15:N X0)(v16 v17:N P)(x19:X0)(h22:(D1 v15.length ([x19]:N X0).length 48)=T)(h23:(D1 v16.length ([v9]:N P).length 8)=T):∀(f:U) (b0 b1:Q) (b2 b3:Q) (b4 b5:Q) (b9 b10:Q) (b11 b12:Q),E3 X G1 (E8 F_w0 caps_w0 a0 x8 v9 v10 v11 v12 v13 v14 v15 v16 v17 x19) f [b0,b1,b2,b3,b4,b5,T,T,G,b9,b10,b11,b12,T,T,G,G,G,G,G,G,G] (A6 a0 x8 v9 x19 (vc (.own 90000)) (vc (.own 90001)) b0 b1 b2 b3 b4 b5 T T G b9 b10 b11 b12 T T G G G G G [(99999999999,(dm v10.row++ [aL (W (rL X0.row) v11),.dat (.clo F_w0 caps_w0),.own 90000,.own 90001,.own 90002,aI v12,aI v13,aB v14])),(5,(dm x19.row))] [(90000,4,W X0.row v15),(90001,1,W rI v16),(90002,1,W rI v17),(5504,4,W X0.row ([x19]:N X0)),(5952,1,W rI ([v9]:N P))]):=by
 intro f
 induction f with
 | zero=>intro b0 b1 b2 b3 b4 b5 b9 b10 b11 b12 h; simp at h
 | succ f ih=>
  intro b0 b1 b2 b3 b4 b5 b9 b10 b11 b12
  refine B3 ⟨?_,?_,?_,?_,?_,?_,?_,?_,?_,?_,?_,?_,?_,?_,?_,?_,?_,?_,?_,?_,?_,?_,⟨⟩⟩<;>try first | (intro h; cases h; done) | (intro _ hw; simp at hw; done) | (intro h0 hw; obtain rfl:=hz h0 rfl; (try obtain rfl:=hq hw 2 rfl rfl); (try obtain rfl:=hq hw 3 rfl rfl); (try obtain rfl:=hq hw 4 rfl rfl); (try obtain rfl:=hq hw 9 rfl rfl); (try obtain rfl:=hq hw 10 rfl rfl); (try obtain rfl:=hq hw 11 rfl rfl); refine np ?_; simp only[A6,cdt,cdf,A1,A,B,C,E,F,J]; exact ih _ _ _ _ _ _ _ _ _ _)
  ·intro h0 hw
   obtain rfl:=hq hw 5 rfl rfl
   refine np ?_
   try simp only[h22,A6,cdt,cdf,A1,A,B,C,E,F,J]
   exact E3b F_w0 caps_w0 a0 x8 v9 v10 v11 v12 v13 v14 v15 v16 v17 x19 h22 h23 _ b0 b1 b2 b3 b4 b9 b10 b11 b12
theorem F89(F_w0:FuncId)(caps_w0:N D)(a0:Xd)(x8:N X0)(v9:P)(v10:X6)(v11:N (N X0))(v12 v13:P)(v14:Q)(v15:N X0)(v16 v17:N P)(x19:X0)(h22:(D1 v15.length ([x19]:N X0).length 48)=T)(h23:(D1 v16.length ([v9]:N P).length 8)=T):∀(f:U) (b0 b1:Q) (b2 b3:Q) (b4 b5:Q) (b9 b10:Q) (b11 b12 b13:Q),E3 X G1 (E8 F_w0 caps_w0 a0 x8 v9 v10 v11 v12 v13 v14 v15 v16 v17 x19) f [b0,b1,b2,b3,b4,b5,T,T,G,b9,b10,b11,b12,b13,G,G,G,G,G,G,G,G] (A6 a0 x8 v9 x19 (vc (.own 90000)) (vc (.own 90001)) b0 b1 b2 b3 b4 b5 T T G b9 b10 b11 b12 b13 G G G G G G [(99999999999,(dm v10.row++ [aL (W (rL X0.row) v11),.dat (.clo F_w0 caps_w0),.own 90000,.own 90001,.own 90002,aI v12,aI v13,aB v14])),(5,(dm x19.row))] [(90000,4,W X0.row v15),(90001,1,W rI v16),(90002,1,W rI v17),(5504,4,W X0.row ([x19]:N X0))]):=by
 intro f
 induction f with
 | zero=>intro b0 b1 b2 b3 b4 b5 b9 b10 b11 b12 b13 h; simp at h
 | succ f ih=>
  intro b0 b1 b2 b3 b4 b5 b9 b10 b11 b12 b13
  refine B3 ⟨?_,?_,?_,?_,?_,?_,?_,?_,?_,?_,?_,?_,?_,?_,?_,?_,?_,?_,?_,?_,?_,?_,⟨⟩⟩<;>try first | (intro h; cases h; done) | (intro _ hw; simp at hw; done) | (intro h0 hw; obtain rfl:=hz h0 rfl; (try obtain rfl:=hq hw 2 rfl rfl); (try obtain rfl:=hq hw 3 rfl rfl); (try obtain rfl:=hq hw 4 rfl rfl); (try obtain rfl:=hq hw 9 rfl rfl); (try obtain rfl:=hq hw 10 rfl rfl); (try obtain rfl:=hq hw 11 rfl rfl); refine np ?_; simp only[A6,cdt,cdf,A1,A,B,C,E,F,J]; exact ih _ _ _ _ _ _ _ _ _ _ _)
  ·intro h0 hw
   obtain rfl:=hq hw 5 rfl rfl
   refine np ?_
   try simp only[h22,A6,cdt,cdf,A1,A,B,C,E,F,J]
   exact F2r F_w0 caps_w0 a0 x8 v9 v10 v11 v12 v13 v14 v15 v16 v17 x19 h22 h23 _ b0 b1 b2 b3 b4 b9 b10 b11 b12 b13
  ·intro h0 hw
   obtain rfl:=hq hw 13 rfl rfl
   refine np ?_
   try simp only[A6,cdt,cdf,A1,A,B,C,E,F,J]
   refine C7 (es:=W rI ([v9]:N P)) V (by simp only[St.fresh,I,zA,P8]; simp[AV.cells,V1.cells,AC.uses]) ?_
   try simp only[A1,A,B,C,E,F,J]
   exact E24 F_w0 caps_w0 a0 x8 v9 v10 v11 v12 v13 v14 v15 v16 v17 x19 h22 h23 _ b0 b1 b2 b3 b4 b5 b9 b10 b11 b12
theorem F1h(F_w0:FuncId)(caps_w0:N D)(a0:Xd)(x8:N X0)(v9:P)(v10:X6)(v11:N (N X0))(v12 v13:P)(v14:Q)(v15:N X0)(v16 v17:N P)(x19:X0)(h22:(D1 v15.length ([x19]:N X0).length 48)=T)(h23:(D1 v16.length ([v9]:N P).length 8)=T):∀(f:U) (b0 b1:Q) (b2 b3:Q) (b4 b5:Q) (b6 b9:Q) (b10 b11 b12:Q),E3 X G1 (E8 F_w0 caps_w0 a0 x8 v9 v10 v11 v12 v13 v14 v15 v16 v17 x19) f [b0,b1,b2,b3,b4,b5,b6,G,G,b9,b10,b11,b12,T,T,G,G,G,G,G,G,G] (A6 a0 x8 v9 x19 (vc (.own 90000)) (vc (.own 90001)) b0 b1 b2 b3 b4 b5 b6 G G b9 b10 b11 b12 T T G G G G G [(99999999999,(dm v10.row++ [aL (W (rL X0.row) v11),.dat (.clo F_w0 caps_w0),.own 90000,.own 90001,.own 90002,aI v12,aI v13,aB v14])),(5,(dm x19.row))] [(90000,4,W X0.row v15),(90001,1,W rI v16),(90002,1,W rI v17),(5952,1,W rI ([v9]:N P))]):=by
 intro f
 induction f with
 | zero=>intro b0 b1 b2 b3 b4 b5 b6 b9 b10 b11 b12 h; simp at h
 | succ f ih=>
  intro b0 b1 b2 b3 b4 b5 b6 b9 b10 b11 b12
  refine B3 ⟨?_,?_,?_,?_,?_,?_,?_,?_,?_,?_,?_,?_,?_,?_,?_,?_,?_,?_,?_,?_,?_,?_,⟨⟩⟩<;>try first | (intro h; cases h; done) | (intro _ hw; simp at hw; done) | (intro h0 hw; obtain rfl:=hz h0 rfl; (try obtain rfl:=hq hw 2 rfl rfl); (try obtain rfl:=hq hw 3 rfl rfl); (try obtain rfl:=hq hw 4 rfl rfl); (try obtain rfl:=hq hw 9 rfl rfl); (try obtain rfl:=hq hw 10 rfl rfl); (try obtain rfl:=hq hw 11 rfl rfl); refine np ?_; simp only[A6,cdt,cdf,A1,A,B,C,E,F,J]; exact ih _ _ _ _ _ _ _ _ _ _ _)
  ·intro h0 hw
   obtain rfl:=hq hw 6 rfl rfl
   refine⟨[],[(L,.keep [0,3,4,5,61,62,63,79,80,81,82,83,84,85,86,87,88,89,90,91,92,93,94,95,96,97,98] [99999999999,5] [90000,90001,90002,5504,5952])],V,V,?_⟩
   try simp only[A6,cdt,cdf,zD,zC,A1,A,B,C,E,F,J]
   refine C7 (es:=W X0.row ([x19]:N X0)) V (by simp only[St.fresh,I,zA,P8]; simp[AV.cells,V1.cells,AC.uses]) ?_
   try simp only[A1,A,B,C,E,F,J]
   exact E24 F_w0 caps_w0 a0 x8 v9 v10 v11 v12 v13 v14 v15 v16 v17 x19 h22 h23 _ b0 b1 b2 b3 b4 b5 b9 b10 b11 b12
theorem F5r(F_w0:FuncId)(caps_w0:N D)(a0:Xd)(x8:N X0)(v9:P)(v10:X6)(v11:N (N X0))(v12 v13:P)(v14:Q)(v15:N X0)(v16 v17:N P)(x19:X0)(h22:(D1 v15.length ([x19]:N X0).length 48)=T)(h23:(D1 v16.length ([v9]:N P).length 8)=T):∀(f:U) (b0 b1:Q) (b2 b3:Q) (b4 b5:Q) (b6 b9:Q) (b10 b11:Q) (b12 b13:Q),E3 X G1 (E8 F_w0 caps_w0 a0 x8 v9 v10 v11 v12 v13 v14 v15 v16 v17 x19) f [b0,b1,b2,b3,b4,b5,b6,G,G,b9,b10,b11,b12,b13,G,G,G,G,G,G,G,G] (A6 a0 x8 v9 x19 (vc (.own 90000)) (vc (.own 90001)) b0 b1 b2 b3 b4 b5 b6 G G b9 b10 b11 b12 b13 G G G G G G [(99999999999,(dm v10.row++ [aL (W (rL X0.row) v11),.dat (.clo F_w0 caps_w0),.own 90000,.own 90001,.own 90002,aI v12,aI v13,aB v14])),(5,(dm x19.row))] [(90000,4,W X0.row v15),(90001,1,W rI v16),(90002,1,W rI v17)]):=by
 intro f
 induction f with
 | zero=>intro b0 b1 b2 b3 b4 b5 b6 b9 b10 b11 b12 b13 h; simp at h
 | succ f ih=>
  intro b0 b1 b2 b3 b4 b5 b6 b9 b10 b11 b12 b13
  refine B3 ⟨?_,?_,?_,?_,?_,?_,?_,?_,?_,?_,?_,?_,?_,?_,?_,?_,?_,?_,?_,?_,?_,?_,⟨⟩⟩<;>try first | (intro _ hw; simp at hw; done) | (intro h0 hw; obtain rfl:=hz h0 rfl; (try obtain rfl:=hq hw 2 rfl rfl); (try obtain rfl:=hq hw 3 rfl rfl); (try obtain rfl:=hq hw 4 rfl rfl); (try obtain rfl:=hq hw 9 rfl rfl); (try obtain rfl:=hq hw 10 rfl rfl); (try obtain rfl:=hq hw 11 rfl rfl); refine np ?_; simp only[A6,cdt,cdf,A1,A,B,C,E,F,J]; exact ih _ _ _ _ _ _ _ _ _ _ _ _)
  ·intro h0 hw
   obtain rfl:=hq hw 6 rfl rfl
   refine np ?_
   try simp only[A6,cdt,cdf,A1,A,B,C,E,F,J]
   refine C7 (es:=W X0.row ([x19]:N X0)) V (by simp only[St.fresh,I,zA,P8]; simp[AV.cells,V1.cells,AC.uses]) ?_
   try simp only[A1,A,B,C,E,F,J]
   exact F89 F_w0 caps_w0 a0 x8 v9 v10 v11 v12 v13 v14 v15 v16 v17 x19 h22 h23 _ b0 b1 b2 b3 b4 b5 b9 b10 b11 b12 b13
  ·intro h0 hw
   obtain rfl:=hq hw 13 rfl rfl
   refine np ?_
   try simp only[A6,cdt,cdf,A1,A,B,C,E,F,J]
   refine C7 (es:=W rI ([v9]:N P)) V (by simp only[St.fresh,I,zA,P8]; simp[AV.cells,V1.cells,AC.uses]) ?_
   try simp only[A1,A,B,C,E,F,J]
   exact F1h F_w0 caps_w0 a0 x8 v9 v10 v11 v12 v13 v14 v15 v16 v17 x19 h22 h23 _ b0 b1 b2 b3 b4 b5 b6 b9 b10 b11 b12
abbrev A8(a0:Xd)(x8:N X0)(v9:P)(wo5_ wo11_:AV)(c0_ c1_:Q)(c2_ c3_:Q)(c4_ c5_:Q)(c6_ c7_:Q)(c8_ c9_:Q)(c10_ c11_:Q)(c12_ c13_:Q)(c14_ c15_:Q)(c17_ c18_:Q)(bx_:N (U × N AC))(rs_:Rows):St:=⟨[(0,vc (.pb 99999999999 0)),(3,vc (aI (a0.plan.length:P))),(61,vc (aL (W X0.row x8))),(62,vc (aI (x8.length:P))),(63,vc (aI v9)),(101,bif c0_ then vc (.pb 99999999999 0) else .undef),(102,bif c1_ then vc (.pb 99999999999 0) else .undef),(103,bif c2_ then vc (.pb 99999999999 0) else .undef),(104,bif c3_ then vc (.pb 99999999999 0) else .undef),(105,bif c4_ then vc (.pb 99999999999 14) else .undef),(106,bif c5_ then wo5_ else .undef),(107,bif c6_ then vc (aI (a0.plan.length:P)) else .undef),(108,bif c7_ then vc (.own 90000) else .undef),(109,bif c8_ then vc (.pb 99999999999 0) else .undef),(110,bif c9_ then vc (.pb 99999999999 0) else .undef),(111,bif c10_ then vc (.pb 99999999999 15) else .undef),(112,bif c11_ then wo11_ else .undef),(113,bif c12_ then vc (aI (a0.plan.length:P)) else .undef),(114,bif c13_ then vc (.own 90001) else .undef),(115,bif c14_ then vc (.pb 99999999999 0) else .undef),(116,bif c15_ then vc (.pb 99999999999 14) else .undef),(117,bif c17_ then vc (.pb 99999999999 0) else .undef),(118,bif c18_ then vc (.pb 99999999999 15) else .undef)],bx_,rs_⟩
abbrev G8(F_w0:FuncId)(caps_w0:N D)(a0:Xd)(x8:N X0)(v9:P)(r24:Xd)(p25 p26:U × U):St:=(A8 a0 x8 v9 (vc (.undef)) (vc (.undef)) T T T T T T T T T T T T T T T T T T [(99999999999,(dm r24.h.row++ [aL (W (rL X0.row) r24.choices),.dat (.clo F_w0 caps_w0),.own 90000,.own 90001,.own 90002,aI r24.least.i0,aI r24.least.i1,aB r24.found]))] [(90000,4,W X0.row (r24.plan.take p25.2)),(90001,1,W rI (r24.choice.take p26.2)),(90002,1,W rI r24.best)])
theorem F7i(F_w0:FuncId)(caps_w0:N D)(a0:Xd)(x8:N X0)(v9:P)(r24:Xd)(p25 p26:U × U)(h25:bnd (r24.plan.length:P) (a0.plan.length:P) 0 r24.plan.length=H p25)(h26:bnd (r24.choice.length:P) (a0.plan.length:P) 0 r24.choice.length=H p26):∀(f:U) (b17:Q),E3 X J6 (G8 F_w0 caps_w0 a0 x8 v9 r24 p25 p26) f [T,T,T,T,T,T,T,T,T,T,T,T,T,T,T,T,T,b17,T,T] (A8 a0 x8 v9 (vc (.undef)) (vc (.undef)) T T T T T T T T T T T T T T T T b17 T [(99999999999,(dm r24.h.row++ [aL (W (rL X0.row) r24.choices),.dat (.clo F_w0 caps_w0),.own 90000,.own 90001,.own 90002,aI r24.least.i0,aI r24.least.i1,aB r24.found]))] [(90000,4,W X0.row (r24.plan.take p25.2)),(90001,1,W rI (r24.choice.take p26.2)),(90002,1,W rI r24.best)]):=by
 intro f
 induction f with
 | zero=>
  intro b17 h
  obtain rfl:b17=T:=Z.1 h b17 (by simp)
  rfl
 | succ f ih=>
  intro b17
  refine B3 ⟨?_,?_,?_,?_,?_,?_,?_,?_,?_,?_,?_,?_,?_,?_,?_,?_,?_,?_,?_,?_,⟨⟩⟩<;>try first | (intro h; cases h; done) | (intro h0 hw; obtain rfl:=hz h0 rfl; refine np ?_; simp only[A8,cdt,cdf,A1,A,B,C,E,F,J]; exact ih _)
theorem E22(F_w0:FuncId)(caps_w0:N D)(a0:Xd)(x8:N X0)(v9:P)(r24:Xd)(p25 p26:U × U)(h25:bnd (r24.plan.length:P) (a0.plan.length:P) 0 r24.plan.length=H p25)(h26:bnd (r24.choice.length:P) (a0.plan.length:P) 0 r24.choice.length=H p26):∀(f:U) (b1 b8:Q) (b9 b10:Q) (b14 b17 b18:Q),E3 X J6 (G8 F_w0 caps_w0 a0 x8 v9 r24 p25 p26) f [T,b1,T,T,T,T,T,T,b8,b9,b10,T,T,T,b14,T,T,b17,b18,G] (A8 a0 x8 v9 (vc (.undef)) (vc (.undef)) T b1 T T T T T T b8 b9 b10 T T T b14 T b17 b18 [(99999999999,(dm r24.h.row++ [aL (W (rL X0.row) r24.choices),.dat (.clo F_w0 caps_w0),.own 90000,.undef,.own 90002,aI r24.least.i0,aI r24.least.i1,aB r24.found]))] [(90000,4,W X0.row (r24.plan.take p25.2)),(90001,1,W rI (r24.choice.take p26.2)),(90002,1,W rI r24.best)]):=by
 intro f
 induction f with
 | zero=>intro b1 b8 b9 b10 b14 b17 b18 h; simp at h
 | succ f ih=>
  intro b1 b8 b9 b10 b14 b17 b18
  refine B3 ⟨?_,?_,?_,?_,?_,?_,?_,?_,?_,?_,?_,?_,?_,?_,?_,?_,?_,?_,?_,?_,⟨⟩⟩<;>try first | (intro h; cases h; done) | (intro h0 hw; obtain rfl:=hz h0 rfl; (try obtain rfl:=hq hw 1 rfl rfl); (try obtain rfl:=hq hw 8 rfl rfl); (try obtain rfl:=hq hw 9 rfl rfl); (try obtain rfl:=hq hw 10 rfl rfl); (try obtain rfl:=hq hw 14 rfl rfl); (try obtain rfl:=hq hw 17 rfl rfl); refine np ?_; simp only[A8,cdt,cdf,A1,A,B,C,E,F,J]; exact ih _ _ _ _ _ _ _)
  ·intro h0 hw
   obtain rfl:=hq hw 1 rfl rfl
   obtain rfl:=hq hw 8 rfl rfl
   obtain rfl:=hq hw 9 rfl rfl
   obtain rfl:=hq hw 10 rfl rfl
   obtain rfl:=hq hw 14 rfl rfl
   obtain rfl:=hq hw 18 rfl rfl
   refine np ?_
   try simp only[A8,cdt,cdf,A1,A,B,C,E,F,J]
   exact F7i F_w0 caps_w0 a0 x8 v9 r24 p25 p26 h25 h26 _ b17
theorem E29(F_w0:FuncId)(caps_w0:N D)(a0:Xd)(x8:N X0)(v9:P)(r24:Xd)(p25 p26:U × U)(h25:bnd (r24.plan.length:P) (a0.plan.length:P) 0 r24.plan.length=H p25)(h26:bnd (r24.choice.length:P) (a0.plan.length:P) 0 r24.choice.length=H p26):∀(f:U) (b0 b1:Q) (b2 b3:Q) (b4 b8:Q) (b9 b10:Q) (b14 b15:Q),E3 X J6 (G8 F_w0 caps_w0 a0 x8 v9 r24 p25 p26) f [b0,b1,b2,b3,b4,T,T,T,b8,b9,b10,T,T,T,b14,b15,G,G,G,G] (A8 a0 x8 v9 (vc (.undef)) (vc (.undef)) b0 b1 b2 b3 b4 T T T b8 b9 b10 T T T b14 b15 G G [(99999999999,(dm r24.h.row++ [aL (W (rL X0.row) r24.choices),.dat (.clo F_w0 caps_w0),.undef,.undef,.own 90002,aI r24.least.i0,aI r24.least.i1,aB r24.found]))] [(90000,4,W X0.row (r24.plan.take p25.2)),(90001,1,W rI (r24.choice.take p26.2)),(90002,1,W rI r24.best)]):=by
 intro f
 induction f with
 | zero=>intro b0 b1 b2 b3 b4 b8 b9 b10 b14 b15 h; simp at h
 | succ f ih=>
  intro b0 b1 b2 b3 b4 b8 b9 b10 b14 b15
  refine B3 ⟨?_,?_,?_,?_,?_,?_,?_,?_,?_,?_,?_,?_,?_,?_,?_,?_,?_,?_,?_,?_,⟨⟩⟩<;>try first | (intro h; cases h; done) | (intro _ hw; simp at hw; done) | (intro h0 hw; obtain rfl:=hz h0 rfl; (try obtain rfl:=hq hw 0 rfl rfl); (try obtain rfl:=hq hw 2 rfl rfl); (try obtain rfl:=hq hw 3 rfl rfl); (try obtain rfl:=hq hw 4 rfl rfl); (try obtain rfl:=hq hw 8 rfl rfl); (try obtain rfl:=hq hw 9 rfl rfl); (try obtain rfl:=hq hw 14 rfl rfl); refine np ?_; simp only[A8,cdt,cdf,A1,A,B,C,E,F,J]; exact ih _ _ _ _ _ _ _ _ _ _)
  ·intro h0 hw
   obtain rfl:=hq hw 0 rfl rfl
   obtain rfl:=hq hw 2 rfl rfl
   obtain rfl:=hq hw 3 rfl rfl
   obtain rfl:=hq hw 4 rfl rfl
   obtain rfl:=hq hw 15 rfl rfl
   refine np ?_
   try simp only[A8,cdt,cdf,A1,A,B,C,E,F,J]
   exact E22 F_w0 caps_w0 a0 x8 v9 r24 p25 p26 h25 h26 _ b1 b8 b9 b10 b14 G G
theorem F2w(F_w0:FuncId)(caps_w0:N D)(a0:Xd)(x8:N X0)(v9:P)(r24:Xd)(p25 p26:U × U)(h25:bnd (r24.plan.length:P) (a0.plan.length:P) 0 r24.plan.length=H p25)(h26:bnd (r24.choice.length:P) (a0.plan.length:P) 0 r24.choice.length=H p26):∀(f:U) (b1 b8:Q) (b9 b10:Q) (b12 b14:Q),E3 X J6 (G8 F_w0 caps_w0 a0 x8 v9 r24 p25 p26) f [T,b1,T,T,T,T,T,T,b8,b9,b10,T,b12,G,b14,T,T,G,G,G] (A8 a0 x8 v9 (vc (.undef)) (vc (.own 90001)) T b1 T T T T T T b8 b9 b10 T b12 G b14 T G G [(99999999999,(dm r24.h.row++ [aL (W (rL X0.row) r24.choices),.dat (.clo F_w0 caps_w0),.own 90000,.own 90001,.own 90002,aI r24.least.i0,aI r24.least.i1,aB r24.found]))] [(90000,4,W X0.row (r24.plan.take p25.2)),(90001,1,W rI r24.choice),(90002,1,W rI r24.best)]):=by
 intro f
 induction f with
 | zero=>intro b1 b8 b9 b10 b12 b14 h; simp at h
 | succ f ih=>
  intro b1 b8 b9 b10 b12 b14
  refine B3 ⟨?_,?_,?_,?_,?_,?_,?_,?_,?_,?_,?_,?_,?_,?_,?_,?_,?_,?_,?_,?_,⟨⟩⟩<;>try first | (intro h; cases h; done) | (intro _ hw; simp at hw; done) | (intro h0 hw; obtain rfl:=hz h0 rfl; (try obtain rfl:=hq hw 8 rfl rfl); (try obtain rfl:=hq hw 9 rfl rfl); refine np ?_; simp only[A8,cdt,cdf,A1,A,B,C,E,F,J]; exact ih _ _ _ _ _ _)
  ·intro h0 hw
   obtain rfl:=hq hw 12 rfl rfl
   refine⟨[],[(L,.cut 114)],V,V,?_⟩
   try simp only[A8,cdt,cdf,zD,zC,A1,A,B,C,E,F,J]
   refine A60 V V h26 (by rfl) ?_
   try simp only[A1,A,B,C,E,F,J]
   exact E22 F_w0 caps_w0 a0 x8 v9 r24 p25 p26 h25 h26 _ b1 b8 b9 b10 b14 G G
theorem F27(F_w0:FuncId)(caps_w0:N D)(a0:Xd)(x8:N X0)(v9:P)(r24:Xd)(p25 p26:U × U)(h25:bnd (r24.plan.length:P) (a0.plan.length:P) 0 r24.plan.length=H p25)(h26:bnd (r24.choice.length:P) (a0.plan.length:P) 0 r24.choice.length=H p26):∀(f:U) (b0 b1:Q) (b2 b3:Q) (b4 b8:Q) (b9 b10:Q) (b11 b12:Q) (b14 b15:Q),E3 X J6 (G8 F_w0 caps_w0 a0 x8 v9 r24 p25 p26) f [b0,b1,b2,b3,b4,T,T,T,b8,b9,b10,b11,b12,G,b14,b15,G,G,G,G] (A8 a0 x8 v9 (vc (.undef)) (vc (.own 90001)) b0 b1 b2 b3 b4 T T T b8 b9 b10 b11 b12 G b14 b15 G G [(99999999999,(dm r24.h.row++ [aL (W (rL X0.row) r24.choices),.dat (.clo F_w0 caps_w0),.undef,.own 90001,.own 90002,aI r24.least.i0,aI r24.least.i1,aB r24.found]))] [(90000,4,W X0.row (r24.plan.take p25.2)),(90001,1,W rI r24.choice),(90002,1,W rI r24.best)]):=by
 intro f
 induction f with
 | zero=>intro b0 b1 b2 b3 b4 b8 b9 b10 b11 b12 b14 b15 h; simp at h
 | succ f ih=>
  intro b0 b1 b2 b3 b4 b8 b9 b10 b11 b12 b14 b15
  refine B3 ⟨?_,?_,?_,?_,?_,?_,?_,?_,?_,?_,?_,?_,?_,?_,?_,?_,?_,?_,?_,?_,⟨⟩⟩<;>try first | (intro h; cases h; done) | (intro _ hw; simp at hw; done) | (intro h0 hw; obtain rfl:=hz h0 rfl; (try obtain rfl:=hq hw 0 rfl rfl); (try obtain rfl:=hq hw 2 rfl rfl); (try obtain rfl:=hq hw 3 rfl rfl); (try obtain rfl:=hq hw 4 rfl rfl); (try obtain rfl:=hq hw 8 rfl rfl); (try obtain rfl:=hq hw 9 rfl rfl); (try obtain rfl:=hq hw 10 rfl rfl); (try obtain rfl:=hq hw 11 rfl rfl); (try obtain rfl:=hq hw 14 rfl rfl); refine np ?_; simp only[A8,cdt,cdf,A1,A,B,C,E,F,J]; exact ih _ _ _ _ _ _ _ _ _ _ _ _)
  ·intro h0 hw
   obtain rfl:=hq hw 11 rfl rfl
   obtain rfl:=hq hw 12 rfl rfl
   refine⟨[],[(L,.cut 114)],V,V,?_⟩
   try simp only[A8,cdt,cdf,zD,zC,A1,A,B,C,E,F,J]
   refine A60 V V h26 (by rfl) ?_
   try simp only[A1,A,B,C,E,F,J]
   exact E29 F_w0 caps_w0 a0 x8 v9 r24 p25 p26 h25 h26 _ b0 b1 b2 b3 b4 b8 b9 b10 b14 b15
  ·intro h0 hw
   obtain rfl:=hq hw 0 rfl rfl
   obtain rfl:=hq hw 2 rfl rfl
   obtain rfl:=hq hw 3 rfl rfl
   obtain rfl:=hq hw 4 rfl rfl
   obtain rfl:=hq hw 11 rfl rfl
   obtain rfl:=hq hw 15 rfl rfl
   refine np ?_
   try simp only[A8,cdt,cdf,A1,A,B,C,E,F,J]
   exact F2w F_w0 caps_w0 a0 x8 v9 r24 p25 p26 h25 h26 _ b1 b8 b9 b10 b12 b14
theorem F4g(F_w0:FuncId)(caps_w0:N D)(a0:Xd)(x8:N X0)(v9:P)(r24:Xd)(p25 p26:U × U)(h25:bnd (r24.plan.length:P) (a0.plan.length:P) 0 r24.plan.length=H p25)(h26:bnd (r24.choice.length:P) (a0.plan.length:P) 0 r24.choice.length=H p26):∀(f:U) (b0 b1:Q) (b2 b3:Q) (b4 b5:Q) (b6 b8:Q) (b9 b10:Q),E3 X J6 (G8 F_w0 caps_w0 a0 x8 v9 r24 p25 p26) f [b0,b1,b2,b3,b4,b5,b6,G,b8,b9,b10,T,T,T,G,G,G,G,G,G] (A8 a0 x8 v9 (vc (.own 90000)) (vc (.undef)) b0 b1 b2 b3 b4 b5 b6 G b8 b9 b10 T T T G G G G [(99999999999,(dm r24.h.row++ [aL (W (rL X0.row) r24.choices),.dat (.clo F_w0 caps_w0),.own 90000,.undef,.own 90002,aI r24.least.i0,aI r24.least.i1,aB r24.found]))] [(90000,4,W X0.row r24.plan),(90001,1,W rI (r24.choice.take p26.2)),(90002,1,W rI r24.best)]):=by
 intro f
 induction f with
 | zero=>intro b0 b1 b2 b3 b4 b5 b6 b8 b9 b10 h; simp at h
 | succ f ih=>
  intro b0 b1 b2 b3 b4 b5 b6 b8 b9 b10
  refine B3 ⟨?_,?_,?_,?_,?_,?_,?_,?_,?_,?_,?_,?_,?_,?_,?_,?_,?_,?_,?_,?_,⟨⟩⟩<;>try first | (intro h; cases h; done) | (intro _ hw; simp at hw; done) | (intro h0 hw; obtain rfl:=hz h0 rfl; (try obtain rfl:=hq hw 2 rfl rfl); (try obtain rfl:=hq hw 3 rfl rfl); (try obtain rfl:=hq hw 4 rfl rfl); (try obtain rfl:=hq hw 8 rfl rfl); (try obtain rfl:=hq hw 9 rfl rfl); refine np ?_; simp only[A8,cdt,cdf,A1,A,B,C,E,F,J]; exact ih _ _ _ _ _ _ _ _ _ _)
  ·intro h0 hw
   obtain rfl:=hq hw 5 rfl rfl
   obtain rfl:=hq hw 6 rfl rfl
   refine⟨[],[(L,.cut 108)],V,V,?_⟩
   try simp only[A8,cdt,cdf,zD,zC,A1,A,B,C,E,F,J]
   refine A60 V V h25 (by rfl) ?_
   try simp only[A1,A,B,C,E,F,J]
   exact E29 F_w0 caps_w0 a0 x8 v9 r24 p25 p26 h25 h26 _ b0 b1 b2 b3 b4 b8 b9 b10 G G
theorem F5n(F_w0:FuncId)(caps_w0:N D)(a0:Xd)(x8:N X0)(v9:P)(r24:Xd)(p25 p26:U × U)(h25:bnd (r24.plan.length:P) (a0.plan.length:P) 0 r24.plan.length=H p25)(h26:bnd (r24.choice.length:P) (a0.plan.length:P) 0 r24.choice.length=H p26):∀(f:U) (b0 b1:Q) (b2 b3:Q) (b4 b5:Q) (b6 b8:Q) (b9 b10:Q) (b11 b12:Q),E3 X J6 (G8 F_w0 caps_w0 a0 x8 v9 r24 p25 p26) f [b0,b1,b2,b3,b4,b5,b6,G,b8,b9,b10,b11,b12,G,G,G,G,G,G,G] (A8 a0 x8 v9 (vc (.own 90000)) (vc (.own 90001)) b0 b1 b2 b3 b4 b5 b6 G b8 b9 b10 b11 b12 G G G G G [(99999999999,(dm r24.h.row++ [aL (W (rL X0.row) r24.choices),.dat (.clo F_w0 caps_w0),.own 90000,.own 90001,.own 90002,aI r24.least.i0,aI r24.least.i1,aB r24.found]))] [(90000,4,W X0.row r24.plan),(90001,1,W rI r24.choice),(90002,1,W rI r24.best)]):=by
 intro f
 induction f with
 | zero=>intro b0 b1 b2 b3 b4 b5 b6 b8 b9 b10 b11 b12 h; simp at h
 | succ f ih=>
  intro b0 b1 b2 b3 b4 b5 b6 b8 b9 b10 b11 b12
  refine B3 ⟨?_,?_,?_,?_,?_,?_,?_,?_,?_,?_,?_,?_,?_,?_,?_,?_,?_,?_,?_,?_,⟨⟩⟩<;>try first | (intro _ hw; simp at hw; done) | (intro h0 hw; obtain rfl:=hz h0 rfl; (try obtain rfl:=hq hw 2 rfl rfl); (try obtain rfl:=hq hw 3 rfl rfl); (try obtain rfl:=hq hw 4 rfl rfl); (try obtain rfl:=hq hw 8 rfl rfl); (try obtain rfl:=hq hw 9 rfl rfl); (try obtain rfl:=hq hw 10 rfl rfl); refine np ?_; simp only[A8,cdt,cdf,A1,A,B,C,E,F,J]; exact ih _ _ _ _ _ _ _ _ _ _ _ _)
  ·intro h0 hw
   obtain rfl:=hq hw 5 rfl rfl
   obtain rfl:=hq hw 6 rfl rfl
   refine⟨[],[(L,.cut 108)],V,V,?_⟩
   try simp only[A8,cdt,cdf,zD,zC,A1,A,B,C,E,F,J]
   refine A60 V V h25 (by rfl) ?_
   try simp only[A1,A,B,C,E,F,J]
   exact F27 F_w0 caps_w0 a0 x8 v9 r24 p25 p26 h25 h26 _ b0 b1 b2 b3 b4 b8 b9 b10 b11 b12 G G
  ·intro h0 hw
   obtain rfl:=hq hw 11 rfl rfl
   obtain rfl:=hq hw 12 rfl rfl
   refine⟨[],[(L,.cut 114)],V,V,?_⟩
   try simp only[A8,cdt,cdf,zD,zC,A1,A,B,C,E,F,J]
   refine A60 V V h26 (by rfl) ?_
   try simp only[A1,A,B,C,E,F,J]
   exact F4g F_w0 caps_w0 a0 x8 v9 r24 p25 p26 h25 h26 _ b0 b1 b2 b3 b4 b5 b6 b8 b9 b10
theorem F46(w0:(N X0)→O Xj)(rec_:Xd→O Xd)(F_w0:FuncId)(caps_w0:N D)(hF_w0:V6 X F_w0=T)(h_w0:∀z0 zr,w0 z0=H zr→FC X F_w0 ([.sc (.sl (W X0.row z0))]++caps_w0.map .sc) [.ag [.v (.int .i64 zr.i0),.v (.int .i64 zr.i1)]])(h_rec:∀(a0:Xd) zr,rec_ a0=H zr→FCz X 179 [.p] (T9 F_w0 caps_w0 a0) (T5 a0) (T9 F_w0 caps_w0 zr) (T5 zr) [])(a0:Xd)(x8:N X0):∀(n:U) (v9:P) (v10:X6) (v11:N (N X0)) (v12 v13:P) (v14:Q) (v15:N X0) (v16 v17:N P) (r:Xd),K4 w0 rec_ a0 x8 n v9 v10 v11 v12 v13 v14 v15 v16 v17=H r→∀σ:St,σ.kept [0,3,61,62,63] [99999999999] [90000,90001,90002]=⟨[(0,vc (.pb 99999999999 0)),(3,vc (aI (a0.plan.length:P))),(61,vc (aL (W X0.row x8))),(62,vc (aI (x8.length:P))),(63,vc (aI v9))],[(99999999999,(dm v10.row++ [aL (W (rL X0.row) v11),.dat (.clo F_w0 caps_w0),.own 90000,.own 90001,.own 90002,aI v12,aI v13,aB v14]))],[(90000,4,W X0.row v15),(90001,1,W rI v16),(90002,1,W rI v17)]⟩→go X (.code (.loop C5h):: [.blk 0]) (B0a [] [] (T9 F_w0 caps_w0 r) (T5 r)) .normal (H σ):=by
 intro n
 induction n with
 | zero=>intro _ _ _ _ _ _ _ _ _ r h; cases h
 | succ n ih=>
  intro v9 v10 v11 v12 v13 v14 v15 v16 v17 r h σ hσ
  rw[K4] at h
  refine B0 ?_
  rcases ic h with ⟨h18,h⟩|⟨h18,h⟩
  ·obtain⟨x19,h19,h⟩:=ob h
   try simp only[hσ,h18,h19,C5h,A,B,C,E,F,J]
   refine D7 V V ?_
   try simp only[h18,h19,A,B,C,E,F,J]
   refine C3 V ?_
   obtain⟨r20,h20,h⟩:=ob h
   try simp only[h18,h19,A,B,C,E,F,J]
   refine B9i (B47 _ _ _ _ h20) (by first | rfl | kernel_rfl) (R5 V) V (uf V) ?_
   rcases ic h with ⟨h21,h⟩|⟨h21,h⟩
   ·try simp only[h18,h19,h21,A,B,C,E,F,J]
    obtain⟨h22,h⟩:=D3 h
    obtain⟨h23,h⟩:=D3 h
    refine A4w (ks:= [0,3,4,5,61,62,63]) (bs:= [99999999999,5]) (rs:= [90000,90001,90002]) (τ:=(E8 F_w0 caps_w0 a0 x8 v9 v10 v11 v12 v13 v14 v15 v16 v17 x19)) V (F5r F_w0 caps_w0 a0 x8 v9 v10 v11 v12 v13 v14 v15 v16 v17 x19 h22 h23 _ G G G G G G G G G G G G) ?_
    simp only[E8,A6,cdt]
    try simp only[h18,h19,h21,h22,h23,A,B,C,E,F,J]
    refine C2p ?_
    obtain⟨r24,h24,h⟩:=ob h
    try simp only[h18,h19,h21,h22,h23,A,B,C,E,F,J]
    refine A89 (h_rec _ _ h24) 99999999999 [90000,90001,90002] rfl V V V (by decide) V V V ?_
    try simp only[h18,h19,h21,h22,h23,A,B,C,E,F,J]
    obtain⟨p25,h25,h⟩:=ob h
    obtain⟨p26,h26,h⟩:=ob h
    refine A4w (ks:= [0,3,61,62,63]) (bs:= [99999999999]) (rs:= [90000,90001,90002]) (τ:=(G8 F_w0 caps_w0 a0 x8 v9 r24 p25 p26)) V (F5n F_w0 caps_w0 a0 x8 v9 r24 p25 p26 h25 h26 _ G G G G G G G G G G G G) ?_
    simp only[G8,A8,cdt]
    try simp only[h18,h19,h21,h22,h23,A,B,C,E,F,J]
    refine ih _ _ _ _ _ _ _ _ _ _ h _ ?_
    try simp only[h18,h19,h21,h22,h23,A,B,C,E,F,J,Y]
   ·try simp only[h18,h19,h21,A,B,C,E,F,J]
    refine ih _ _ _ _ _ _ _ _ _ _ h _ ?_
    try simp only[h18,h19,h21,A,B,C,E,F,J,Y]
  ·try simp only[hσ,h18,C5h,A,B,C,E,F,J]
   cases h
   exact⟨trivial,[90000,90001,90002],by decide,by decide,V,V⟩
theorem E2u(w0:(N X0)→O Xj)(rec_:Xd→O Xd)(F_w0:FuncId)(caps_w0:N D)(hF_w0:V6 X F_w0=T)(h_w0:∀z0 zr,w0 z0=H zr→FC X F_w0 ([.sc (.sl (W X0.row z0))]++caps_w0.map .sc) [.ag [.v (.int .i64 zr.i0),.v (.int .i64 zr.i1)]])(h_rec:∀(a0:Xd) zr,rec_ a0=H zr→FCz X 179 [.p] (T9 F_w0 caps_w0 a0) (T5 a0) (T9 F_w0 caps_w0 zr) (T5 zr) [])(a0:Xd)(r1:Xj)(v5:Q)(r:Xd)(h:K3 w0 rec_ a0 r1 v5=H r)(σ:St)(hσ:σ.kept [0,2] [99999999999,2] [90000,90001,90002]=⟨[(0,vc (.pb 99999999999 0)),(2,vc (.pb 2 0))],[(99999999999,(dm a0.h.row++ [aL (W (rL X0.row) a0.choices),.dat (.clo F_w0 caps_w0),.own 90000,.own 90001,.own 90002,aI a0.least.i0,aI a0.least.i1,aB v5])),(2,[aI r1.i0,aI r1.i1])],[(90000,4,W X0.row a0.plan),(90001,1,W rI a0.choice),(90002,1,W rI a0.best)]⟩):go X (.code C6l:: []) (B0a [] [] (T9 F_w0 caps_w0 r) (T5 r)) .normal (H σ):=by
 unfold K3 at h
 rcases ic h with ⟨h6,h⟩|⟨h6,h⟩
 ·try simp only[hσ,h6,C6l,A,B,C,E,F,J]
  obtain⟨r7,h7,h⟩:=ob h
  refine A4w (ks:= [0,2]) (bs:= [99999999999,2]) (rs:= [90000,90001,90002]) (τ:=(K6 F_w0 caps_w0 a0 r1 r7)) V (F6g F_w0 caps_w0 a0 r1 v5 r7 h7 _ G G G G G G G G) ?_
  simp only[K6,D0,cdt]
  try simp only[h6,A,B,C,E,F,J]
  cases h
  exact⟨trivial,[90000,90001,3008],by decide,by decide,V,V⟩
 ·obtain⟨x8,h8,h⟩:=ob h
  try simp only[hσ,h6,h8,C6l,A,B,C,E,F,J]
  refine F46 w0 rec_ F_w0 caps_w0 hF_w0 h_w0 h_rec _ _ _ _ _ _ _ _ _ _ _ _ _ h _ ?_
  try simp only[h6,h8,A,B,C,E,F,J,Y]
theorem F3l:A5 X 179=H (cc510.strip,[],120):=by kernel_rfl
theorem B2b(w0:(N X0)→O Xj)(rec_:Xd→O Xd)(a0 r:Xd)(F_w0:FuncId)(caps_w0:N D)(hF_w0:V6 X F_w0=T)(h_w0:∀z0 zr,w0 z0=H zr→FC X F_w0 ([.sc (.sl (W X0.row z0))]++caps_w0.map .sc) [.ag [.v (.int .i64 zr.i0),.v (.int .i64 zr.i1)]])(h_rec:∀(a0:Xd) zr,rec_ a0=H zr→FCz X 179 [.p] (T9 F_w0 caps_w0 a0) (T5 a0) (T9 F_w0 caps_w0 zr) (T5 zr) [])(h:W3 w0 rec_ a0=H r):FCz X 179 [.p] (T9 F_w0 caps_w0 a0) (T5 a0) (T9 F_w0 caps_w0 r) (T5 r) []:=by
 unfold W3 at h
 refine C63 (σ:=⟨[(0,vc (.pb 99999999999 0))],[(99999999999,[aI a0.h.Forecast.Tide.Mean,aL (W Xi.row a0.h.Forecast.Tide.Parts),aL (W Xg.row a0.h.Forecast.Surges),aL (W Xc.row a0.h.Chart.Points),aL (W X3.row a0.h.Chart.Segments),aL (W Xb.row a0.h.Fleet),aI a0.h.Regime.Gap,aB a0.h.Regime.NoMeet,aI a0.h.Crew.Tugs,aI a0.h.Crew.Pilots,aI a0.h.Crew.Rest,aL (W rI a0.h.Crew.Moves),aL (W (rL X0.row) a0.choices),.dat (.clo F_w0 caps_w0),.own 90000,.own 90001,.own 90002,aI a0.least.i0,aI a0.least.i1,aB a0.found])],[(90000,4,W X0.row a0.plan),(90001,1,W rI a0.choice),(90002,1,W rI a0.best)]⟩) A7 F3l V V V V ?_
 simp only[cc510]
 try simp only[A,B,C,E,F,J]
 refine C3 V ?_
 obtain⟨r1,h1,h⟩:=ob h
 try simp only[A,B,C,E,F,J]
 refine D6r (h_w0 _ _ h1) hF_w0 (by first | rfl | kernel_rfl) (by first | rfl | kernel_rfl) (R5 V) V (uf V) ?_
 try simp only[A,B,C,E,F,J]
 refine C8s (m:= .box 2 [aI (0:P),aI (0:P)]) V V (B4p V V) ?_
 try simp only[A,B,C,E,F,J]
 refine C3 V ?_
 try simp only[A,B,C,E,F,J]
 refine C3 V ?_
 rcases ic h with ⟨h2,h⟩|⟨h2,h⟩
 ·obtain⟨r3,h3,h⟩:=ob h
  try simp only[h2,A,B,C,E,F,J]
  refine F9 (B6v _ _ _ h3) V V (uf V) ?_
  rcases ic h with ⟨h4,h⟩|⟨h4,h⟩
  ·try simp only[h2,h4,A,B,C,E,F,J]
   refine E2u w0 rec_ F_w0 caps_w0 hF_w0 h_w0 h_rec _ _ _ _ h _ ?_
   try simp only[h2,h4,A,B,C,E,F,J,Y]
  ·try simp only[h2,h4,A,B,C,E,F,J]
   cases h
   exact⟨trivial,[90000,90001,90002],by decide,by decide,V,V⟩
 ·try simp only[h2,A,B,C,E,F,J]
  refine E2u w0 rec_ F_w0 caps_w0 hF_w0 h_w0 h_rec _ _ _ _ h _ ?_
  try simp only[h2,A,B,C,E,F,J,Y]
theorem B2f(w0:(N X0)→O Xj)(F_w0:FuncId)(caps_w0:N D)(hF_w0:V6 X F_w0=T)(h_w0:∀z0 zr,w0 z0=H zr→FC X F_w0 ([.sc (.sl (W X0.row z0))]++caps_w0.map .sc) [.ag [.v (.int .i64 zr.i0),.v (.int .i64 zr.i1)]]):∀(n:U) (a0 r:Xd),F6 w0 n a0=H r→FCz X 179 [.p] (T9 F_w0 caps_w0 a0) (T5 a0) (T9 F_w0 caps_w0 r) (T5 r) []:=by
 intro n
 induction n with
 | zero=>intro _ r h; cases h
 | succ n ih=>intro a0 r h; rw[F6] at h; exact B2b w0 (F6 w0 n) a0 r F_w0 caps_w0 hF_w0 h_w0 ih h
theorem B3i(w0:(N X0)→O Xj)(a0 r:Xd)(F_w0:FuncId)(caps_w0:N D)(hF_w0:V6 X F_w0=T)(h_w0:∀z0 zr,w0 z0=H zr→FC X F_w0 ([.sc (.sl (W X0.row z0))]++caps_w0.map .sc) [.ag [.v (.int .i64 zr.i0),.v (.int .i64 zr.i1)]])(h:A5o w0 a0=H r):FCz X 179 [.p] (T9 F_w0 caps_w0 a0) (T5 a0) (T9 F_w0 caps_w0 r) (T5 r) []:=B2f w0 F_w0 caps_w0 hF_w0 h_w0 bigN a0 r h
/- 84:impl_leastPlan -/
def A6s:N (N U × AItem):= [([],(L,.mv 17 (S 9))),([0],(L,.nilc 18 (S 17))),([1],(L,.faddr 19 (S 18) 16)),([2],(L,.load 20 (S 19) G 1)),([],(L,.mv 21 (S 9))),([4],(L,.nilc 22 (S 21))),([5],(L,.faddr 23 (S 22) 17)),([6],(L,.load 24 (S 23) T 2)),([],(L,.mv 25 (S 9))),([8],(L,.nilc 26 (S 25))),([9],(L,.faddr 27 (S 26) 19)),([10],(L,.load 28 (S 27) G 1)),([3,0,1,2,3],(L,.mv 6 (S 20))),([7,12,0,1,2,3,4,5,6,7,12],(L,.store (S 7) (S 24) 2)),([11,13,0,1,2,3,4,5,6,7,8,9,10,11,12,13],(L,.mv 8 (S 28)))]
def cc535:X2:=(.seq (.reg [bo 3 0,(L,.mv 6 KN),(L,.alloc 7 [aI 0,aI 0]),(L,.mv 8 (KB G))]) (.seq (.reg [lw 10 3 12,mv 11 1,mv 12 2,(L,.build 13 [aI 0,.nil,.nil,.nil,.nil,.nil,aI 0,aB G,aI 0,aI 0,aI 0,.nil,.nil,.undef,.nil,.nil,.nil,aI 0,aI 0,aB G] [(0,12,(S 10)),(12,1,(S 11)),(13,1,(S 12))]),bo 14 13,(L,.ownb 14 14 143232 4),(L,.ownb 14 15 143296 1),(L,.ownb 14 16 143360 1),mv 9 14]) (.seq (.cal [mv 15 9] 16 179 [(S 15)]) (.seq (.any A6s) .ret))))
abbrev Q0(r1:Xd)(c0_ c1_:Q)(c2_ c3_:Q)(c4_ c5_:Q)(c6_ c7_:Q)(c8_ c9_:Q)(c10_ c11_:Q)(c12_ c14_:Q)(bx_:N (U × N AC))(rs_:Rows):St:=⟨[(7,vc (.pb 7 0)),(9,vc (.pb 14 0)),(17,bif c0_ then vc (.pb 14 0) else .undef),(18,bif c1_ then vc (.pb 14 0) else .undef),(19,bif c2_ then vc (.pb 14 16) else .undef),(20,bif c3_ then vc (.own 143360) else .undef),(21,bif c4_ then vc (.pb 14 0) else .undef),(22,bif c5_ then vc (.pb 14 0) else .undef),(23,bif c6_ then vc (.pb 14 17) else .undef),(24,bif c7_ then va [aI r1.least.i0,aI r1.least.i1] else .undef),(25,bif c8_ then vc (.pb 14 0) else .undef),(26,bif c9_ then vc (.pb 14 0) else .undef),(27,bif c10_ then vc (.pb 14 19) else .undef),(28,bif c11_ then vc (aB r1.found) else .undef),(6,bif c12_ then vc (.own 143360) else .undef),(8,bif c14_ then vc (aB r1.found) else .undef)],bx_,rs_⟩
abbrev A27(F_a2:FuncId)(caps_a2:N D)(r1:Xd):St:=(Q0 r1 T T T T T T T T T T T T T T [(7,[aI r1.least.i0,aI r1.least.i1]),(14,(dm r1.h.row++ [aL (W (rL X0.row) r1.choices),.dat (.clo F_a2 caps_a2),.own 143232,.own 143296,.own 143360,aI r1.least.i0,aI r1.least.i1,aB r1.found]))] [(143232,4,W X0.row r1.plan),(143296,1,W rI r1.choice),(143360,1,W rI r1.best)])
theorem F47(F_a2:FuncId)(caps_a2:N D)(r1:Xd):∀(f:U) (b8 b9:Q) (b10 b11 b14:Q),E3 X A6s (A27 F_a2 caps_a2 r1) f [T,T,T,T,T,T,T,T,b8,b9,b10,b11,T,T,b14] (Q0 r1 T T T T T T T T b8 b9 b10 b11 T b14 [(7,[aI r1.least.i0,aI r1.least.i1]),(14,(dm r1.h.row++ [aL (W (rL X0.row) r1.choices),.dat (.clo F_a2 caps_a2),.own 143232,.own 143296,.own 143360,aI r1.least.i0,aI r1.least.i1,aB r1.found]))] [(143232,4,W X0.row r1.plan),(143296,1,W rI r1.choice),(143360,1,W rI r1.best)]):=by
 intro f
 induction f with
 | zero=>
  intro b8 b9 b10 b11 b14 h
  obtain rfl:b8=T:=Z.1 h b8 (by simp)
  obtain rfl:b9=T:=Z.1 h b9 (by simp)
  obtain rfl:b10=T:=Z.1 h b10 (by simp)
  obtain rfl:b11=T:=Z.1 h b11 (by simp)
  obtain rfl:b14=T:=Z.1 h b14 (by simp)
  rfl
 | succ f ih=>
  intro b8 b9 b10 b11 b14
  refine B3 ⟨?_,?_,?_,?_,?_,?_,?_,?_,?_,?_,?_,?_,?_,?_,?_,⟨⟩⟩<;>try first | (intro h; cases h; done) | (intro h0 hw; obtain rfl:=hz h0 rfl; (try obtain rfl:=hq hw 8 rfl rfl); (try obtain rfl:=hq hw 9 rfl rfl); (try obtain rfl:=hq hw 10 rfl rfl); (try obtain rfl:=hq hw 11 rfl rfl); refine np ?_; simp only[Q0,cdt,cdf,A1,A,B,C,E,F,J]; exact ih _ _ _ _ _)
theorem F4y(F_a2:FuncId)(caps_a2:N D)(r1:Xd):∀(f:U) (b0 b1:Q) (b2 b3:Q) (b4 b5:Q) (b6 b7:Q) (b8 b9:Q) (b10 b11 b12:Q),E3 X A6s (A27 F_a2 caps_a2 r1) f [b0,b1,b2,b3,b4,b5,b6,b7,b8,b9,b10,b11,b12,G,G] (Q0 r1 b0 b1 b2 b3 b4 b5 b6 b7 b8 b9 b10 b11 b12 G [(7,[aI (0:P),aI (0:P)]),(14,(dm r1.h.row++ [aL (W (rL X0.row) r1.choices),.dat (.clo F_a2 caps_a2),.own 143232,.own 143296,.own 143360,aI r1.least.i0,aI r1.least.i1,aB r1.found]))] [(143232,4,W X0.row r1.plan),(143296,1,W rI r1.choice),(143360,1,W rI r1.best)]):=by
 intro f
 induction f with
 | zero=>intro b0 b1 b2 b3 b4 b5 b6 b7 b8 b9 b10 b11 b12 h; simp at h
 | succ f ih=>
  intro b0 b1 b2 b3 b4 b5 b6 b7 b8 b9 b10 b11 b12
  refine B3 ⟨?_,?_,?_,?_,?_,?_,?_,?_,?_,?_,?_,?_,?_,?_,?_,⟨⟩⟩<;>try first | (intro _ hw; simp at hw; done) | (intro h0 hw; obtain rfl:=hz h0 rfl; (try obtain rfl:=hq hw 0 rfl rfl); (try obtain rfl:=hq hw 1 rfl rfl); (try obtain rfl:=hq hw 2 rfl rfl); (try obtain rfl:=hq hw 3 rfl rfl); (try obtain rfl:=hq hw 4 rfl rfl); (try obtain rfl:=hq hw 5 rfl rfl); (try obtain rfl:=hq hw 6 rfl rfl); (try obtain rfl:=hq hw 8 rfl rfl); (try obtain rfl:=hq hw 9 rfl rfl); (try obtain rfl:=hq hw 10 rfl rfl); refine np ?_; simp only[Q0,cdt,cdf,A1,A,B,C,E,F,J]; exact ih _ _ _ _ _ _ _ _ _ _ _ _ _)
  ·intro h0 hw
   obtain rfl:=hq hw 0 rfl rfl
   obtain rfl:=hq hw 1 rfl rfl
   obtain rfl:=hq hw 2 rfl rfl
   obtain rfl:=hq hw 3 rfl rfl
   obtain rfl:=hq hw 4 rfl rfl
   obtain rfl:=hq hw 5 rfl rfl
   obtain rfl:=hq hw 6 rfl rfl
   obtain rfl:=hq hw 7 rfl rfl
   obtain rfl:=hq hw 12 rfl rfl
   refine np ?_
   try simp only[Q0,cdt,cdf,A1,A,B,C,E,F,J]
   exact F47 F_a2 caps_a2 r1 _ b8 b9 b10 b11 G
theorem F6l:A5 X 84=H (cc535.strip,[6,.c 7 T 2,8],29):=by kernel_rfl
theorem B1r(a0:X6)(a1:N (N X0))(a2:(N X0)→O Xj)(r:(N P) × Xj × Q)(F_a2:FuncId)(caps_a2:N D)(hF_a2:V6 X F_a2=T)(h_a2:∀z0 zr,a2 z0=H zr→FC X F_a2 ([.sc (.sl (W X0.row z0))]++caps_a2.map .sc) [.ag [.v (.int .i64 zr.i0),.v (.int .i64 zr.i1)]])(h:V4 a0 a1 a2=H r):FC X 84 [.ag (X6.row a0),.sc (.sl (W (rL X0.row) a1)),.sc (.clo F_a2 caps_a2)] [.sc (.o 1 (W rI r.1)),.ag [.v (.int .i64 r.2.1.i0),.v (.int .i64 r.2.1.i1)],.sc (.v (.bool r.2.2))]:=by
 unfold V4 at h
 refine C4 A7 F6l V ?_
 simp only[cc535,A,B,C,E,F,J]
 try simp only[A,B,C,E,F,J]
 refine B2 V V V ?_
 try simp only[A,B,C,E,F,J]
 refine D7 V V ?_
 try simp only[A,B,C,E,F,J]
 refine B2 V V V ?_
 try simp only[A,B,C,E,F,J]
 refine A47 (cs':= [aI a0.Forecast.Tide.Mean,aL (W Xi.row a0.Forecast.Tide.Parts),aL (W Xg.row a0.Forecast.Surges),aL (W Xc.row a0.Chart.Points),aL (W X3.row a0.Chart.Segments),aL (W Xb.row a0.Fleet),aI a0.Regime.Gap,aB a0.Regime.NoMeet,aI a0.Crew.Tugs,aI a0.Crew.Pilots,aI a0.Crew.Rest,aL (W rI a0.Crew.Moves),aL (W (rL X0.row) a1),.dat (.clo F_a2 caps_a2),.own 143232,.nil,.nil,aI (0:P),aI (0:P),aB G]) V V V V ?_
 try simp only[A,B,C,E,F,J]
 refine A47 (cs':= [aI a0.Forecast.Tide.Mean,aL (W Xi.row a0.Forecast.Tide.Parts),aL (W Xg.row a0.Forecast.Surges),aL (W Xc.row a0.Chart.Points),aL (W X3.row a0.Chart.Segments),aL (W Xb.row a0.Fleet),aI a0.Regime.Gap,aB a0.Regime.NoMeet,aI a0.Crew.Tugs,aI a0.Crew.Pilots,aI a0.Crew.Rest,aL (W rI a0.Crew.Moves),aL (W (rL X0.row) a1),.dat (.clo F_a2 caps_a2),.own 143232,.own 143296,.nil,aI (0:P),aI (0:P),aB G]) V V V V ?_
 try simp only[A,B,C,E,F,J]
 refine A47 (cs':= [aI a0.Forecast.Tide.Mean,aL (W Xi.row a0.Forecast.Tide.Parts),aL (W Xg.row a0.Forecast.Surges),aL (W Xc.row a0.Chart.Points),aL (W X3.row a0.Chart.Segments),aL (W Xb.row a0.Fleet),aI a0.Regime.Gap,aB a0.Regime.NoMeet,aI a0.Crew.Tugs,aI a0.Crew.Pilots,aI a0.Crew.Rest,aL (W rI a0.Crew.Moves),aL (W (rL X0.row) a1),.dat (.clo F_a2 caps_a2),.own 143232,.own 143296,.own 143360,aI (0:P),aI (0:P),aB G]) V V V V ?_
 try simp only[A,B,C,E,F,J]
 refine C2p ?_
 obtain⟨r1,h1,h⟩:=ob h
 try simp only[A,B,C,E,F,J]
 refine A89 (B3i _ _ _ F_a2 caps_a2 hF_a2 h_a2 h1) 14 [143232,143296,143360] rfl V V V (by decide) V V V ?_
 try simp only[A,B,C,E,F,J]
 refine A4w (ks:= [7,9]) (bs:= [7,14]) (rs:= [143232,143296,143360]) (τ:=(A27 F_a2 caps_a2 r1)) V (F4y F_a2 caps_a2 r1 _ G G G G G G G G G G G G G) ?_
 simp only[A27,Q0,cdt]
 try simp only[A,B,C,E,F,J]
 cases h
 try simp only[Q8,A,B,C,E,F,J]
 trivial
/- 31:impl_CostOf -/
def C5u:X2:= .seq (.reg [(L,.keep [3,6,7,8] [] [])]) (.seq (.reg [bn 9 .lss 8 7]) (.seq (.cond (S 9) .skip (.exit 0)) (.seq (.block 1 (.seq (.reg [ia 10 6 8 4,lw 11 10 4,(L,.alloc 5 [aI 0,aI 0,aI 0,.nil]),so 5 11 4]) (.reg [mv 12 3,fa 13 5 2,ld 14 13,bn 15 .add 12 14,mv 3 15]))) (.reg [(L,.bin 16 .add (S 8) (K 1)),mv 8 16]))))
def D3w:X2:=(.seq (.reg [mv 17 3,mv 2 17]) .ret)
def cc541:X2:=(.seq (.reg [(L,.mv 2 (K 0))]) (.seq (.reg [(L,.mv 3 (K 0))]) (.seq (.seq (.reg [mv 6 0,ln 7 6,(L,.mv 8 (K 0))]) (.block 0 (.loop C5u))) D3w)))
theorem F77(a0:N X0):∀(n:U) (v1 v2 r:P),A0v a0 n v1 v2=H r→∀σ:St,σ.kept [3,6,7,8] [] []=⟨[(3,vc (aI v1)),(6,vc (aL (W X0.row a0))),(7,vc (aI (a0.length:P))),(8,vc (aI v2))],[],[]⟩→go X (.code (.loop C5u):: [.blk 0,.code D3w]) (Ret [2] [.sc (.v (.int .i64 r))]) .normal (H σ):=by
 intro n
 induction n with
 | zero=>intro _ _ r h; cases h
 | succ n ih=>
  intro v1 v2 r h σ hσ
  rw[A0v] at h
  refine B0 ?_
  rcases ic h with ⟨h3,h⟩|⟨h3,h⟩
  ·obtain⟨x4,h4,h⟩:=ob h
   try simp only[hσ,h3,h4,C5u,A,B,C,E,F,J]
   refine D7 V V ?_
   try simp only[h3,h4,A,B,C,E,F,J]
   refine ih _ _ _ h _ ?_
   try simp only[h3,h4,A,B,C,E,F,J,Y]
  ·try simp only[hσ,h3,C5u,D3w,A,B,C,E,F,J]
   cases h
   trivial
theorem F48:A5 X 31=H (cc541.strip,[2],18):=by kernel_rfl
theorem C4k(a0:N X0)(r:P)(h:A74 a0=H r):FC X 31 [.sc (.sl (W X0.row a0))] [.sc (.v (.int .i64 r))]:=by
 unfold A74 at h
 refine C4 A7 F48 V ?_
 simp only[cc541,A,B,C,E,F,J]
 try simp only[A,B,C,E,F,J]
 refine F77 _ _ _ _ _ h _ ?_
 try simp only[A,B,C,E,F,J,Y]
/- 85:impl_byCost -/
def cc544:X2:=(.seq (.reg [(L,.alloc 2 [aI 0,aI 0])]) (.seq (.reg [mv 3 0,ca 4 31 [S 3],(L,.build 5 [aI 0,aI 0] [(0,1,(S 4))]),so 2 5 2]) .ret))
theorem F6u:A5 X 85=H (cc544.strip,[.c 2 T 2],6):=by kernel_rfl
theorem B5a(a0:N X0)(r:Xj)(h:A1i a0=H r):FC X 85 [.sc (.sl (W X0.row a0))] [.ag [.v (.int .i64 r.i0),.v (.int .i64 r.i1)]]:=by
 unfold A1i at h
 refine C4 A7 F6u V ?_
 simp only[cc544,A,B,C,E,F,J]
 try simp only[A,B,C,E,F,J]
 refine D7 V V ?_
 obtain⟨r1,h1,h⟩:=ob h
 try simp only[A,B,C,E,F,J]
 refine A2 (C4k _ _ h1) V V (uf V) ?_
 try simp only[A,B,C,E,F,J]
 cases h
 try simp only[Q8,A,B,C,E,F,J]
 trivial
/- 86:impl_chosen -/
def C5t:X2:= .seq (.reg [(L,.keep [0,5,9,10,11] [] [512])]) (.seq (.reg [bn 12 .lss 11 10]) (.seq (.cond (S 12) .skip (.exit 0)) (.seq (.block 1 (.seq (.reg [mv 13 11,ia 14 9 11 1,ld 15 14,mv 6 13,mv 7 15]) (.reg [mv 16 5,mv 17 0,mv 18 6,ia 19 17 18 1,ld 20 19,mv 21 7,ia 22 20 21 4,lw 23 22 4,(L,.bslice 24 4 [.int .i64 0,.int .i64 0,.int .i64 0,.sl []] 1 [(0,(S 23))]),(L,.app 25 4 48 (S 16) (S 24)),mv 5 25]))) (.reg [(L,.bin 26 .add (S 11) (K 1)),mv 11 26]))))
def D1v:X2:=(.seq (.reg [mv 27 5,mv 4 27]) .ret)
def cc548:X2:=(.seq (.reg [(L,.mv 4 KN)]) (.seq (.reg [(L,.bslice 8 4 [.int .i64 0,.int .i64 0,.int .i64 0,.sl []] 0 []),mv 5 8]) (.seq (.seq (.reg [mv 9 1,ln 10 9,(L,.mv 11 (K 0))]) (.block 0 (.loop C5t))) D1v)))
theorem F8p(a0:N (N X0))(a1:N P):∀(n:U) (v1:P) (v2:N X0) (r:(N X0)),A09 a0 a1 n v1 v2=H r→∀σ:St,σ.kept [0,5,9,10,11] [] [512]=⟨[(0,vc (aL (W (rL X0.row) a0))),(5,vc (.own 512)),(9,vc (aL (W rI a1))),(10,vc (aI (a1.length:P))),(11,vc (aI v1))],[],[(512,4,W X0.row v2)]⟩→go X (.code (.loop C5t):: [.blk 0,.code D1v]) (Ret [4] [.sc (.o 4 (W X0.row r))]) .normal (H σ):=by
 intro n
 induction n with
 | zero=>intro _ _ r h; cases h
 | succ n ih=>
  intro v1 v2 r h σ hσ
  rw[A09] at h
  refine B0 ?_
  rcases ic h with ⟨h3,h⟩|⟨h3,h⟩
  ·obtain⟨x4,h4,h⟩:=ob h
   obtain⟨x5,h5,h⟩:=ob h
   obtain⟨x6,h6,h⟩:=ob h
   try simp only[hσ,h3,h4,h5,h6,C5t,A,B,C,E,F,J]
   refine C7 (es:=W X0.row ([x6]:N X0)) V V ?_
   obtain⟨h7,h⟩:=D3 h
   try simp only[h3,h4,h5,h6,h7,A,B,C,E,F,J]
   refine ih _ _ _ h _ ?_
   try simp only[h3,h4,h5,h6,h7,A,B,C,E,F,J,Y]
  ·try simp only[hσ,h3,C5t,D1v,A,B,C,E,F,J]
   cases h
   trivial
theorem F7w:A5 X 86=H (cc548.strip,[4],28):=by kernel_rfl
theorem C4m(a0:N (N X0))(a1:N P)(r:(N X0))(h:A4j a0 a1=H r):FC X 86 [.sc (.sl (W (rL X0.row) a0)),.sc (.sl (W rI a1))] [.sc (.o 4 (W X0.row r))]:=by
 unfold A4j at h
 refine C4 A7 F7w V ?_
 simp only[cc548,A,B,C,E,F,J]
 try simp only[A,B,C,E,F,J]
 refine C7 (es:=W X0.row ([]:N X0)) V V ?_
 try simp only[A,B,C,E,F,J]
 refine F8p _ _ _ _ _ _ h _ ?_
 try simp only[A,B,C,E,F,J,Y]
/- 16:impl_ClosedPlan -/
def C6t:X2:= .seq (.reg [(L,.keep [1,2,3,24] [3] [])]) (.cond (S 24) (.seq (.reg [(L,.mv 6 KN),(L,.mv 7 (KB G))]) .ret) .skip)
def C5e:X2:= .seq (.reg [(L,.keep [2,3,8,26,27,28] [3] [1600])]) (.seq (.reg [bn 29 .lss 28 27]) (.seq (.cond (S 29) .skip (.exit 0)) (.seq (.block 1 (.seq (.reg [ia 30 26 28 5,lw 31 30 5,(L,.alloc 10 [aI 0,aI 0,aI 0,aI 0,aI 0]),so 10 31 5]) (.reg [mv 32 8,lw 33 3 12,lw 34 10 5,mv 35 2,ca 36 23 [S 33,S 34,S 35],(L,.frz 2304),(L,.bslice 37 1 [.sl []] 1 [(0,(S 36))]),(L,.app 38 1 24 (S 32) (S 37)),mv 8 38]))) (.reg [(L,.bin 39 .add (S 28) (K 1)),mv 28 39]))))
def D4z:X2:=(.seq (.reg [lw 41 3 12,mv 42 8,ca 43 84 [S 41,S 42,.c (.v (.sc (.dat (.clo 85 []))))],mv 40 43,xt 44 40 0,xt 45 40 1,xt 46 40 2,(L,.alloc 12 [aI 0,aI 0]),mv 11 44,so 12 45 2,mv 13 46]) (.seq (.seq (.reg [mv 47 13,nt 48 47]) (.cond (S 48) (.seq (.reg [(L,.mv 6 KN),(L,.mv 7 (KB G))]) .ret) .skip)) (.seq (.reg [mv 49 8,mv 50 11,(L,.frz 1600),(L,.frz 2752),ca 51 86 [S 49,S 50],mv 6 51,(L,.mv 7 (KB T))]) .ret)))
def D5h:X2:=(.seq (.reg [(L,.bslice 25 1 [.sl []] 0 []),mv 8 25]) (.seq (.seq (.reg [mv 26 1,ln 27 26,(L,.mv 28 (K 0))]) (.block 0 (.loop C5e))) D4z))
def cc555:X2:=(.seq (.reg [bo 3 0,(L,.mv 6 KN),(L,.mv 7 (KB G))]) (.seq (.seq (.reg [lw 14 3 12,mv 15 1,ca 16 18 [S 14,S 15],nt 17 16,mv 18 17,(H (18,G),.faddr 19 (S 3) 3),(H (18,G),.load 20 (S 19) T 2),(H (18,G),.mv 21 (S 2)),(H (18,G),.call 22 19 [(S 20),(S 21)]),(H (18,G),.un 23 .not (S 22)),po 24 18 23]) C6t) D5h))
theorem F6w(a2:N Xa)(a1:N X8)(a0:X6):∀(n:U) (v6:P) (v7:N (N X0)) (r:(N X0) × Q),O1 a2 a1 a0 n v6 v7=H r→∀σ:St,σ.kept [2,3,8,26,27,28] [3] [1600]=⟨[(2,vc (aL (W zF a2))),(3,vc (.pb 3 0)),(8,vc (.own 1600)),(26,vc (aL (W X8.row a1))),(27,vc (aI (a1.length:P))),(28,vc (aI v6))],[(3,(dm a0.row))],[(1600,1,W (rL X0.row) v7)]⟩→go X (.code (.loop C5e):: [.blk 0,.code D4z]) (Ret [6,7] [.sc (.o 4 (W X0.row r.1)),.sc (.v (.bool r.2))]) .normal (H σ):=by
 intro n
 induction n with
 | zero=>intro _ _ r h; cases h
 | succ n ih=>
  intro v6 v7 r h σ hσ
  rw[O1] at h
  refine B0 ?_
  rcases ic h with ⟨h8,h⟩|⟨h8,h⟩
  ·obtain⟨x9,h9,h⟩:=ob h
   try simp only[hσ,h8,h9,C5e,A,B,C,E,F,J]
   refine D7 V V ?_
   obtain⟨r10,h10,h⟩:=ob h
   try simp only[h8,h9,A,B,C,E,F,J]
   refine A2 (A92 _ _ _ _ h10) V V (uf V) ?_
   try simp only[h8,h9,A,B,C,E,F,J]
   refine O5 V ?_
   try simp only[h8,h9,A,B,C,E,F,J]
   refine C7 (es:=W (rL X0.row) ([r10]:N (N X0))) V V ?_
   obtain⟨h11,h⟩:=D3 h
   try simp only[h8,h9,h11,A,B,C,E,F,J]
   refine ih _ _ _ h _ ?_
   try simp only[h8,h9,h11,A,B,C,E,F,J,Y]
  ·obtain⟨r12,h12,h⟩:=ob h
   try simp only[hσ,h8,C5e,D4z,A,B,C,E,F,J]
   refine R4 (B1r _ _ _ _ 85 [] (by kernel_rfl) (fun z0 zr zh=>B5a z0 zr zh) h12) V (A7z V ⟨A7y,V,V,V,⟨⟩⟩) V (uf V) ?_
   try simp only[h8,A,B,C,E,F,J]
   refine D7 V V ?_
   rcases ic h with ⟨h13,h⟩|⟨h13,h⟩
   ·try simp only[h8,h13,A,B,C,E,F,J]
    refine O5 V ?_
    try simp only[h8,h13,A,B,C,E,F,J]
    refine O5 V ?_
    obtain⟨r14,h14,h⟩:=ob h
    try simp only[h8,h13,A,B,C,E,F,J]
    refine A2 (C4m _ _ _ h14) V V (uf V) ?_
    try simp only[h8,h13,A,B,C,E,F,J]
    cases h
    trivial
   ·try simp only[h8,h13,A,B,C,E,F,J]
    cases h
    trivial
theorem E2d(a1:N X8)(a2:N Xa)(a0:X6)(v4:Q)(r:(N X0) × Q)(h:A4a a1 a2 a0 v4=H r)(σ:St)(hσ:σ.kept [1,2,3,24] [3] []=⟨[(1,vc (aL (W X8.row a1))),(2,vc (aL (W zF a2))),(3,vc (.pb 3 0)),(24,vc (aB v4))],[(3,(dm a0.row))],[]⟩):go X (.code C6t:: [.code D5h]) (Ret [6,7] [.sc (.o 4 (W X0.row r.1)),.sc (.v (.bool r.2))]) .normal (H σ):=by
 unfold A4a at h
 rcases ic h with ⟨h5,h⟩|⟨h5,h⟩
 ·try simp only[hσ,h5,C6t,A,B,C,E,F,J]
  cases h
  trivial
 ·try simp only[hσ,h5,C6t,D5h,A,B,C,E,F,J]
  refine C7 (es:=W (rL X0.row) ([]:N (N X0))) V V ?_
  try simp only[h5,A,B,C,E,F,J]
  refine F6w _ _ _ _ _ _ _ h _ ?_
  try simp only[h5,A,B,C,E,F,J,Y]
theorem F66:A5 X 16=H (cc555.strip,[6,7],52):=by kernel_rfl
theorem A5g(a0:X6)(a1:N X8)(a2:N Xa)(r:(N X0) × Q)(h:J3 a0 a1 a2=H r):FC X 16 [.ag (X6.row a0),.sc (.sl (W X8.row a1)),.sc (.sl (W zF a2))] [.sc (.o 4 (W X0.row r.1)),.sc (.v (.bool r.2))]:=by
 unfold J3 at h
 refine C4 A7 F66 V ?_
 simp only[cc555,A,B,C,E,F,J]
 try simp only[A,B,C,E,F,J]
 refine B2 V V V ?_
 obtain⟨r1,h1,h⟩:=ob h
 try simp only[A,B,C,E,F,J]
 refine A2 (A5t _ _ _ h1) V V (uf V) ?_
 rcases ic h with ⟨h2,h⟩|⟨h2,h⟩
 ·obtain⟨r3,h3,h⟩:=ob h
  try simp only[h2,A,B,C,E,F,J]
  refine A2 (A5a _ _ _ h3) V V (uf V) ?_
  try simp only[h2,A,B,C,E,F,J]
  refine E2d _ _ _ _ _ h _ ?_
  try simp only[h2,A,B,C,E,F,J,Y]
 ·try simp only[h2,A,B,C,E,F,J]
  refine E2d _ _ _ _ _ h _ ?_
  try simp only[h2,A,B,C,E,F,J,Y]
/- 180:impl_selections -/
def C5m:X2:= .seq (.reg [(L,.keep [0,1,5,6,9,17,18,27,28,29,35,36,37] [] [1024,2176,1728])]) (.seq (.reg [bn 38 .lss 37 36]) (.seq (.cond (S 38) .skip (.exit 4)) (.seq (.block 5 (.seq (.reg [ia 39 35 37 1,ld 40 39,mv 11 40]) (.reg [mv 41 9,mv 42 6,(L,.bin 43 .add (S 42) (K 1)),mv 44 11,bn 45 .add 43 44,(L,.bslice 46 1 [.int .i64 0] 1 [(0,(S 45))]),(L,.app 47 1 8 (S 41) (S 46)),mv 9 47]))) (.reg [(L,.bin 48 .add (S 37) (K 1)),mv 37 48]))))
def D4o:X2:=(.reg [mv 49 5,mv 50 9,(L,.frz 2176),(L,.bslice 51 1 [.sl []] 1 [(0,(S 50))]),(L,.app 52 1 24 (S 49) (S 51)),mv 5 52])
def D1u:X2:=(.reg [(L,.bin 53 .add (S 29) (K 1)),mv 29 53])
def B7q:X2:= .seq (.reg [(L,.keep [0,1,5,6,17,18,27,28,29] [] [1024,1728])]) (.seq (.reg [bn 30 .lss 29 28]) (.seq (.cond (S 30) .skip (.exit 2)) (.seq (.block 3 (.seq (.reg [ia 31 27 29 1,ld 32 31,mv 8 32]) (.seq (.reg [mv 33 6,(L,.bslice 34 1 [.int .i64 0] 1 [(0,(S 33))]),mv 9 34]) (.seq (.seq (.reg [mv 35 8,ln 36 35,(L,.mv 37 (K 0))]) (.block 4 (.loop C5m))) D4o)))) D1u)))
def C0s:X2:=(.reg [(L,.bin 54 .add (S 18) (K 1)),mv 18 54])
def B2i:X2:= .seq (.reg [(L,.keep [0,1,5,17,18] [] [1024])]) (.seq (.reg [bn 19 .lss 18 17]) (.seq (.cond (S 19) .skip (.exit 0)) (.seq (.block 1 (.seq (.reg [mv 20 18,mv 6 20]) (.seq (.reg [mv 21 0,mv 22 6,bn 23 .sub 21 22,(L,.bin 24 .sub (S 23) (K 1)),mv 25 1,(L,.bin 26 .sub (S 25) (K 1)),ca 27 180 [S 24,S 26],ln 28 27,(L,.mv 29 (K 0))]) (.block 2 (.loop B7q))))) C0s)))
def B4c:X2:=(.seq (.reg [mv 55 5,mv 4 55]) .ret)
def cc566:X2:=(.seq (.reg [(L,.mv 4 KN)]) (.seq (.seq (.reg [mv 12 1,(L,.bin 13 .eql (S 12) (K 0))]) (.cond (S 13) (.seq (.reg [(L,.bslice 14 1 [.int .i64 0] 0 []),(L,.frz 896),(L,.bslice 15 1 [.sl []] 1 [(0,(S 14))]),mv 4 15]) .ret) .skip)) (.seq (.reg [(L,.bslice 16 1 [.sl []] 0 []),mv 5 16]) (.seq (.seq (.reg [mv 17 0,(L,.mv 18 (K 0))]) (.block 0 (.loop B2i))) B4c))))
theorem F78(rec_:P→P→O (N (N P)))(h_rec:∀(a0 a1:P) zr,rec_ a0 a1=H zr→FC X 180 [.sc (.int .i64 a0),.sc (.int .i64 a1)] [.sc (.o 1 (W (rL rI) zr))])(a0 a1 v2:P)(r5:(N (N P)))(v6:P)(x9:N P)(v7:N (N P))(A1o:P→(N (N P))→O (N (N P)))(B39:∀(v6:P) (v7:N (N P)) zr,A1o v6 v7=H zr→∀σ:St,σ.kept [0,1,5,6,17,18,27,28,29] [] [1024,1728]=⟨[(0,vc (aI a0)),(1,vc (aI a1)),(5,vc (.own 1024)),(6,vc (aI v2)),(17,vc (aI a0)),(18,vc (aI v2)),(27,vc (.own 1728)),(28,vc (aI (r5.length:P))),(29,vc (aI v6))],[],[(1024,1,W (rL rI) v7),(1728,1,W (rL rI) r5)]⟩→go X (.code (.loop B7q):: [.blk 2,.blk 1,.code C0s,.code (.loop B2i),.blk 0,.code B4c]) (Ret [4] [.sc (.o 1 (W (rL rI) zr))]) .normal (H σ)):∀(n:U) (v10:P) (v11:N P) (r:(N (N P))),A4d rec_ a0 a1 v2 r5 v6 x9 v7 A1o n v10 v11=H r→∀σ:St,σ.kept [0,1,5,6,9,17,18,27,28,29,35,36,37] [] [1024,2176,1728]=⟨[(0,vc (aI a0)),(1,vc (aI a1)),(5,vc (.own 1024)),(6,vc (aI v2)),(9,vc (.own 2176)),(17,vc (aI a0)),(18,vc (aI v2)),(27,vc (.own 1728)),(28,vc (aI (r5.length:P))),(29,vc (aI v6)),(35,vc (aL (W rI x9))),(36,vc (aI (x9.length:P))),(37,vc (aI v10))],[],[(1024,1,W (rL rI) v7),(2176,1,W rI v11),(1728,1,W (rL rI) r5)]⟩→go X (.code (.loop C5m):: [.blk 4,.code D4o,.blk 3,.code D1u,.code (.loop B7q),.blk 2,.blk 1,.code C0s,.code (.loop B2i),.blk 0,.code B4c]) (Ret [4] [.sc (.o 1 (W (rL rI) r))]) .normal (H σ):=by
 intro n
 induction n with
 | zero=>intro _ _ r h; cases h
 | succ n ih=>
  intro v10 v11 r h σ hσ
  rw[A4d] at h
  refine B0 ?_
  rcases ic h with ⟨h12,h⟩|⟨h12,h⟩
  ·obtain⟨x13,h13,h⟩:=ob h
   try simp only[hσ,h12,h13,C5m,A,B,C,E,F,J]
   refine C7 (es:=W rI ([(IntKind.i64.wrap ((IntKind.i64.wrap (v2+(1:P)))+x13))]:N P)) V V ?_
   obtain⟨h14,h⟩:=D3 h
   try simp only[h12,h13,h14,A,B,C,E,F,J]
   refine ih _ _ _ h _ ?_
   try simp only[h12,h13,h14,A,B,C,E,F,J,Y]
  ·try simp only[hσ,h12,C5m,D4o,A,B,C,E,F,J]
   refine O5 V ?_
   try simp only[h12,A,B,C,E,F,J]
   refine C7 (es:=W (rL rI) ([v11]:N (N P))) V V ?_
   obtain⟨h15,h⟩:=D3 h
   try simp only[h12,h15,D1u,A,B,C,E,F,J]
   refine B39 _ _ _ h _ ?_
   try simp only[h12,h15,A,B,C,E,F,J,Y]
theorem F1u(rec_:P→P→O (N (N P)))(h_rec:∀(a0 a1:P) zr,rec_ a0 a1=H zr→FC X 180 [.sc (.int .i64 a0),.sc (.int .i64 a1)] [.sc (.o 1 (W (rL rI) zr))])(a0 a1 v2:P)(r5:(N (N P)))(Y6:P→(N (N P))→O (N (N P)))(B4b:∀(v2:P) (v3:N (N P)) zr,Y6 v2 v3=H zr→∀σ:St,σ.kept [0,1,5,17,18] [] [1024]=⟨[(0,vc (aI a0)),(1,vc (aI a1)),(5,vc (.own 1024)),(17,vc (aI a0)),(18,vc (aI v2))],[],[(1024,1,W (rL rI) v3)]⟩→go X (.code (.loop B2i):: [.blk 0,.code B4c]) (Ret [4] [.sc (.o 1 (W (rL rI) zr))]) .normal (H σ)):∀(n:U) (v6:P) (v7:N (N P)) (r:(N (N P))),A1p rec_ a0 a1 v2 r5 Y6 n v6 v7=H r→∀σ:St,σ.kept [0,1,5,6,17,18,27,28,29] [] [1024,1728]=⟨[(0,vc (aI a0)),(1,vc (aI a1)),(5,vc (.own 1024)),(6,vc (aI v2)),(17,vc (aI a0)),(18,vc (aI v2)),(27,vc (.own 1728)),(28,vc (aI (r5.length:P))),(29,vc (aI v6))],[],[(1024,1,W (rL rI) v7),(1728,1,W (rL rI) r5)]⟩→go X (.code (.loop B7q):: [.blk 2,.blk 1,.code C0s,.code (.loop B2i),.blk 0,.code B4c]) (Ret [4] [.sc (.o 1 (W (rL rI) r))]) .normal (H σ):=by
 intro n
 induction n with
 | zero=>intro _ _ r h; cases h
 | succ n ih=>
  intro v6 v7 r h σ hσ
  rw[A1p] at h
  refine B0 ?_
  rcases ic h with ⟨h8,h⟩|⟨h8,h⟩
  ·obtain⟨x9,h9,h⟩:=ob h
   have h9n:=N4 h9
   try simp only[hσ,h8,h9,h9n,B7q,A,B,C,E,F,J]
   refine C7 (es:=W rI ([v2]:N P)) V V ?_
   try simp only[h8,h9,h9n,A,B,C,E,F,J]
   refine F78 rec_ h_rec _ _ _ _ _ _ _ (A1p rec_ a0 a1 v2 r5 Y6 n) ih _ _ _ _ h _ ?_
   try simp only[h8,h9,h9n,A,B,C,E,F,J,Y]
  ·try simp only[hσ,h8,B7q,C0s,A,B,C,E,F,J]
   refine B4b _ _ _ h _ ?_
   try simp only[h8,A,B,C,E,F,J,Y]
theorem F8u(rec_:P→P→O (N (N P)))(h_rec:∀(a0 a1:P) zr,rec_ a0 a1=H zr→FC X 180 [.sc (.int .i64 a0),.sc (.int .i64 a1)] [.sc (.o 1 (W (rL rI) zr))])(a0 a1:P):∀(n:U) (v2:P) (v3:N (N P)) (r:(N (N P))),A1w rec_ a0 a1 n v2 v3=H r→∀σ:St,σ.kept [0,1,5,17,18] [] [1024]=⟨[(0,vc (aI a0)),(1,vc (aI a1)),(5,vc (.own 1024)),(17,vc (aI a0)),(18,vc (aI v2))],[],[(1024,1,W (rL rI) v3)]⟩→go X (.code (.loop B2i):: [.blk 0,.code B4c]) (Ret [4] [.sc (.o 1 (W (rL rI) r))]) .normal (H σ):=by
 intro n
 induction n with
 | zero=>intro _ _ r h; cases h
 | succ n ih=>
  intro v2 v3 r h σ hσ
  rw[A1w] at h
  refine B0 ?_
  rcases ic h with ⟨h4,h⟩|⟨h4,h⟩
  ·obtain⟨r5,h5,h⟩:=ob h
   try simp only[hσ,h4,B2i,A,B,C,E,F,J]
   refine A2 (h_rec _ _ _ h5) V V (uf V) ?_
   try simp only[h4,A,B,C,E,F,J]
   refine F1u rec_ h_rec _ _ _ _ (A1w rec_ a0 a1 n) ih _ _ _ _ h _ ?_
   try simp only[h4,A,B,C,E,F,J,Y]
  ·try simp only[hσ,h4,B2i,B4c,A,B,C,E,F,J]
   cases h
   trivial
theorem F3q:A5 X 180=H (cc566.strip,[4],56):=by kernel_rfl
theorem B5n(rec_:P→P→O (N (N P)))(a0 a1:P)(r:(N (N P)))(h_rec:∀(a0 a1:P) zr,rec_ a0 a1=H zr→FC X 180 [.sc (.int .i64 a0),.sc (.int .i64 a1)] [.sc (.o 1 (W (rL rI) zr))])(h:A6p rec_ a0 a1=H r):FC X 180 [.sc (.int .i64 a0),.sc (.int .i64 a1)] [.sc (.o 1 (W (rL rI) r))]:=by
 unfold A6p at h
 refine C4 A7 F3q V ?_
 simp only[cc566,A,B,C,E,F,J]
 rcases ic h with ⟨h1,h⟩|⟨h1,h⟩
 ·try simp only[h1,A,B,C,E,F,J]
  refine C7 (es:=W rI ([]:N P)) V V ?_
  try simp only[h1,A,B,C,E,F,J]
  refine O5 V ?_
  try simp only[h1,A,B,C,E,F,J]
  refine C7 (es:=W (rL rI) ([([]:N P)]:N (N P))) V V ?_
  try simp only[h1,A,B,C,E,F,J]
  cases h
  trivial
 ·try simp only[h1,A,B,C,E,F,J]
  refine C7 (es:=W (rL rI) ([]:N (N P))) V V ?_
  try simp only[h1,A,B,C,E,F,J]
  refine F8u rec_ h_rec _ _ _ _ _ _ h _ ?_
  try simp only[h1,A,B,C,E,F,J,Y]
theorem B5j:∀(n:U) (a0:P) (a1:P) (r:(N (N P))),A1s n a0 a1=H r→FC X 180 [.sc (.int .i64 a0),.sc (.int .i64 a1)] [.sc (.o 1 (W (rL rI) r))]:=by
 intro n
 induction n with
 | zero=>intro _ _ r h; cases h
 | succ n ih=>intro a0 a1 r h; rw[A1s] at h; exact B5n (A1s n) a0 a1 r ih h
theorem B77(a0 a1:P)(r:(N (N P)))(h:A5m a0 a1=H r):FC X 180 [.sc (.int .i64 a0),.sc (.int .i64 a1)] [.sc (.o 1 (W (rL rI) r))]:=B5j bigN a0 a1 r h
/- 87:impl_longestSelection -/
def C6s:X2:= .seq (.reg [(L,.keep [0,1,5,17,18,19] [] [1088])]) (.seq (.reg [bn 20 .lss 19 18]) (.seq (.cond (S 20) .skip (.exit 2)) (.seq (.block 3 (.seq (.reg [ia 21 17 19 1,ld 22 21,mv 7 22]) (.seq (.reg [mv 23 1,mv 24 7,(L,.callv 25 (S 23) [(S 24)])]) (.cond (S 25) (.seq (.reg [mv 26 7,mv 4 26]) .ret) .skip)))) (.reg [(L,.bin 27 .add (S 19) (K 1)),mv 19 27]))))
def D2r:X2:=(.reg [mv 12 5,(L,.bin 13 .sub (S 12) (K 1)),mv 5 13])
def B7r:X2:= .seq (.reg [(L,.keep [0,1,5] [] [])]) (.seq (.seq (.reg [mv 10 5,(L,.bin 11 .geq (S 10) (K 0))]) (.cond (S 11) .skip (.exit 0))) (.seq (.block 1 (.seq (.reg [mv 14 0,ln 15 14,mv 16 5,ca 17 180 [S 15,S 16],ln 18 17,(L,.mv 19 (K 0))]) (.block 2 (.loop C6s)))) D2r))
def C01:X2:=(.seq (.reg [(L,.mv 4 KN)]) .ret)
def cc575:X2:=(.seq (.reg [(L,.mv 4 KN)]) (.seq (.seq (.reg [mv 8 0,ln 9 8,mv 5 9]) (.block 0 (.loop B7r))) C01))
theorem F38(a1:(N P)→O Q)(F_a1:FuncId)(caps_a1:N D)(hF_a1:V6 X F_a1=T)(h_a1:∀z0 zr,a1 z0=H zr→FC X F_a1 ([.sc (.sl (W rI z0))]++caps_a1.map .sc) [.sc (.v (.bool zr))])(a0:N X8)(v1:P)(r3:(N (N P)))(T4:P→O (N P))(B0m:∀(v1:P) zr,T4 v1=H zr→∀σ:St,σ.kept [0,1,5] [] []=⟨[(0,vc (aL (W X8.row a0))),(1,vc (.dat (.clo F_a1 caps_a1))),(5,vc (aI v1))],[],[]⟩→go X (.code (.loop B7r):: [.blk 0,.code C01]) (Ret [4] [.sc (.v (.sl (W rI zr)))]) .normal (H σ)):∀(n:U) (v4:P) (r:(N P)),I7 a1 a0 v1 r3 T4 n v4=H r→∀σ:St,σ.kept [0,1,5,17,18,19] [] [1088]=⟨[(0,vc (aL (W X8.row a0))),(1,vc (.dat (.clo F_a1 caps_a1))),(5,vc (aI v1)),(17,vc (.own 1088)),(18,vc (aI (r3.length:P))),(19,vc (aI v4))],[],[(1088,1,W (rL rI) r3)]⟩→go X (.code (.loop C6s):: [.blk 2,.blk 1,.code D2r,.code (.loop B7r),.blk 0,.code C01]) (Ret [4] [.sc (.v (.sl (W rI r)))]) .normal (H σ):=by
 intro n
 induction n with
 | zero=>intro _ r h; cases h
 | succ n ih=>
  intro v4 r h σ hσ
  rw[I7] at h
  refine B0 ?_
  rcases ic h with ⟨h5,h⟩|⟨h5,h⟩
  ·obtain⟨x6,h6,h⟩:=ob h
   have h6n:=N4 h6
   obtain⟨r7,h7,h⟩:=ob h
   try simp only[hσ,h5,h6,h6n,C6s,A,B,C,E,F,J]
   refine A9f (h_a1 _ _ h7) hF_a1 V V (R5 V) V (uf V) ?_
   rcases ic h with ⟨h8,h⟩|⟨h8,h⟩
   ·try simp only[h5,h6,h6n,h8,A,B,C,E,F,J]
    cases h
    trivial
   ·try simp only[h5,h6,h6n,h8,A,B,C,E,F,J]
    refine ih _ _ h _ ?_
    try simp only[h5,h6,h6n,h8,A,B,C,E,F,J,Y]
  ·try simp only[hσ,h5,C6s,D2r,A,B,C,E,F,J]
   refine B0m _ _ h _ ?_
   try simp only[h5,A,B,C,E,F,J,Y]
theorem F5b(a1:(N P)→O Q)(F_a1:FuncId)(caps_a1:N D)(hF_a1:V6 X F_a1=T)(h_a1:∀z0 zr,a1 z0=H zr→FC X F_a1 ([.sc (.sl (W rI z0))]++caps_a1.map .sc) [.sc (.v (.bool zr))])(a0:N X8):∀(n:U) (v1:P) (r:(N P)),H0 a1 a0 n v1=H r→∀σ:St,σ.kept [0,1,5] [] []=⟨[(0,vc (aL (W X8.row a0))),(1,vc (.dat (.clo F_a1 caps_a1))),(5,vc (aI v1))],[],[]⟩→go X (.code (.loop B7r):: [.blk 0,.code C01]) (Ret [4] [.sc (.v (.sl (W rI r)))]) .normal (H σ):=by
 intro n
 induction n with
 | zero=>intro _ r h; cases h
 | succ n ih=>
  intro v1 r h σ hσ
  rw[H0] at h
  refine B0 ?_
  rcases ic h with ⟨h2,h⟩|⟨h2,h⟩
  ·obtain⟨r3,h3,h⟩:=ob h
   try simp only[hσ,h2,B7r,A,B,C,E,F,J]
   refine A2 (B77 _ _ _ h3) V V (uf V) ?_
   try simp only[h2,A,B,C,E,F,J]
   refine F38 a1 F_a1 caps_a1 hF_a1 h_a1 _ _ _ (H0 a1 a0 n) ih _ _ _ h _ ?_
   try simp only[h2,A,B,C,E,F,J,Y]
  ·try simp only[hσ,h2,B7r,C01,A,B,C,E,F,J]
   cases h
   trivial
theorem F9b:A5 X 87=H (cc575.strip,[4],28):=by kernel_rfl
theorem B2e(a0:N X8)(a1:(N P)→O Q)(r:(N P))(F_a1:FuncId)(caps_a1:N D)(hF_a1:V6 X F_a1=T)(h_a1:∀z0 zr,a1 z0=H zr→FC X F_a1 ([.sc (.sl (W rI z0))]++caps_a1.map .sc) [.sc (.v (.bool zr))])(h:A1l a0 a1=H r):FC X 87 [.sc (.sl (W X8.row a0)),.sc (.clo F_a1 caps_a1)] [.sc (.v (.sl (W rI r)))]:=by
 unfold A1l at h
 refine C4 A7 F9b V ?_
 simp only[cc575,A,B,C,E,F,J]
 try simp only[A,B,C,E,F,J]
 refine F5b a1 F_a1 caps_a1 hF_a1 h_a1 _ _ _ _ h _ ?_
 try simp only[A,B,C,E,F,J,Y]
/- 181:impl_isSelection -/
def C50:X2:= .seq (.reg [(L,.keep [0,1,7,8,9] [] [])]) (.seq (.reg [bn 10 .lss 9 8]) (.seq (.cond (S 10) .skip (.exit 0)) (.seq (.block 1 (.seq (.reg [mv 11 9,ia 12 7 9 1,ld 13 12,mv 5 11,mv 6 13]) (.seq (.reg [mv 14 6,mv 15 0,ln 16 15,ca 17 94 [S 14,S 16],nt 18 17,mv 19 18,(H (19,G),.mv 20 (S 5)),(H (19,G),.bin 21 .gtr (S 20) (K 0)),(H (19,G),.mv 22 (S 21)),(H (22,T),.mv 23 (S 1)),(H (22,T),.mv 24 (S 5)),(H (22,T),.bin 25 .sub (S 24) (K 1)),(H (22,T),.iaddr 26 (S 23) (S 25) 1),(H (22,T),.load 27 (S 26) G 1),(H (22,T),.mv 28 (S 6)),(H (22,T),.bin 29 .geq (S 27) (S 28)),(H (19,G),.pick 30 (S 22) (S 29) (KB G)),po 31 19 30]) (.cond (S 31) (.seq (.reg [(L,.mv 4 (KB G))]) .ret) .skip)))) (.reg [(L,.bin 32 .add (S 9) (K 1)),mv 9 32]))))
def D2x:X2:=(.seq (.reg [(L,.mv 4 (KB T))]) .ret)
def cc581:X2:=(.seq (.reg [(L,.mv 4 (KB G))]) (.seq (.seq (.reg [mv 7 1,ln 8 7,(L,.mv 9 (K 0))]) (.block 0 (.loop C50))) D2x))
theorem F5f(a0:N X8)(a1:N P):∀(n:U) (v1:P) (r:Q),N6 a0 a1 n v1=H r→∀σ:St,σ.kept [0,1,7,8,9] [] []=⟨[(0,vc (aL (W X8.row a0))),(1,vc (aL (W rI a1))),(7,vc (aL (W rI a1))),(8,vc (aI (a1.length:P))),(9,vc (aI v1))],[],[]⟩→go X (.code (.loop C50):: [.blk 0,.code D2x]) (Ret [4] [.sc (.v (.bool r))]) .normal (H σ):=by
 intro n
 induction n with
 | zero=>intro _ r h; cases h
 | succ n ih=>
  intro v1 r h σ hσ
  rw[N6] at h
  refine B0 ?_
  rcases ic h with ⟨h2,h⟩|⟨h2,h⟩
  ·obtain⟨x3,h3,h⟩:=ob h
   obtain⟨r4,h4,h⟩:=ob h
   try simp only[hσ,h2,h3,C50,A,B,C,E,F,J]
   refine A2 (E2 _ _ _ h4) V V (uf V) ?_
   rcases ic h with ⟨h5,h⟩|⟨h5,h⟩
   ·rcases ic h with ⟨h6,h⟩|⟨h6,h⟩
    ·obtain⟨x7,h7,h⟩:=ob h
     rcases ic h with ⟨h8,h⟩|⟨h8,h⟩
     ·try simp only[h2,h3,h5,h6,h7,h8,A,B,C,E,F,J]
      cases h
      trivial
     ·try simp only[h2,h3,h5,h6,h7,h8,A,B,C,E,F,J]
      refine ih _ _ h _ ?_
      try simp only[h2,h3,h5,h6,h7,h8,A,B,C,E,F,J,Y]
    ·try simp only[h2,h3,h5,h6,A,B,C,E,F,J]
     refine ih _ _ h _ ?_
     try simp only[h2,h3,h5,h6,A,B,C,E,F,J,Y]
   ·try simp only[h2,h3,h5,A,B,C,E,F,J]
    cases h
    trivial
  ·try simp only[hσ,h2,C50,D2x,A,B,C,E,F,J]
   cases h
   trivial
theorem F11:A5 X 181=H (cc581.strip,[4],33):=by kernel_rfl
theorem B5x(a0:N X8)(a1:N P)(r:Q)(h:A44 a0 a1=H r):FC X 181 [.sc (.sl (W X8.row a0)),.sc (.sl (W rI a1))] [.sc (.v (.bool r))]:=by
 unfold A44 at h
 refine C4 A7 F11 V ?_
 simp only[cc581,A,B,C,E,F,J]
 try simp only[A,B,C,E,F,J]
 refine F5f _ _ _ _ _ h _ ?_
 try simp only[A,B,C,E,F,J,Y]
/- 89:impl_SelectCalls -/
def C57:X2:= .seq (.reg [(L,.keep [0,5,13,14,15] [] [768])]) (.seq (.reg [bn 16 .lss 15 14]) (.seq (.cond (S 16) .skip (.exit 0)) (.seq (.block 1 (.seq (.reg [ia 17 13 15 1,ld 18 17,mv 7 18]) (.reg [mv 19 5,mv 20 0,mv 21 7,ia 22 20 21 5,lw 23 22 5,(L,.bslice 24 5 [.int .i64 0,.int .i64 0,.int .i64 0,.int .i64 0,.int .i64 0] 1 [(0,(S 23))]),(L,.app 25 5 40 (S 19) (S 24)),mv 5 25]))) (.reg [(L,.bin 26 .add (S 15) (K 1)),mv 15 26]))))
def D3h:X2:=(.seq (.reg [mv 27 5,mv 4 27]) .ret)
def cc586:X2:=(.seq (.reg [(L,.mv 4 KN)]) (.seq (.seq (.reg [mv 8 0,mv 9 1,ca 10 181 [S 8,S 9],nt 11 10]) (.cond (S 11) (.seq (.reg [(L,.mv 4 KN)]) .ret) .skip)) (.seq (.reg [(L,.bslice 12 5 [.int .i64 0,.int .i64 0,.int .i64 0,.int .i64 0,.int .i64 0] 0 []),mv 5 12]) (.seq (.seq (.reg [mv 13 1,ln 14 13,(L,.mv 15 (K 0))]) (.block 0 (.loop C57))) D3h))))
theorem F6p(a0:N X8)(a1:N P):∀(n:U) (v3:P) (v4:N X8) (r:(N X8)),P9 a0 a1 n v3 v4=H r→∀σ:St,σ.kept [0,5,13,14,15] [] [768]=⟨[(0,vc (aL (W X8.row a0))),(5,vc (.own 768)),(13,vc (aL (W rI a1))),(14,vc (aI (a1.length:P))),(15,vc (aI v3))],[],[(768,5,W X8.row v4)]⟩→go X (.code (.loop C57):: [.blk 0,.code D3h]) (Ret [4] [.sc (.o 5 (W X8.row r))]) .normal (H σ):=by
 intro n
 induction n with
 | zero=>intro _ _ r h; cases h
 | succ n ih=>
  intro v3 v4 r h σ hσ
  rw[P9] at h
  refine B0 ?_
  rcases ic h with ⟨h5,h⟩|⟨h5,h⟩
  ·obtain⟨x6,h6,h⟩:=ob h
   obtain⟨x7,h7,h⟩:=ob h
   try simp only[hσ,h5,h6,h7,C57,A,B,C,E,F,J]
   refine C7 (es:=W X8.row ([x7]:N X8)) V V ?_
   obtain⟨h8,h⟩:=D3 h
   try simp only[h5,h6,h7,h8,A,B,C,E,F,J]
   refine ih _ _ _ h _ ?_
   try simp only[h5,h6,h7,h8,A,B,C,E,F,J,Y]
  ·try simp only[hσ,h5,C57,D3h,A,B,C,E,F,J]
   cases h
   trivial
theorem F34:A5 X 89=H (cc586.strip,[4],28):=by kernel_rfl
theorem B6b(a0:N X8)(a1:N P)(r:(N X8))(h:A2e a0 a1=H r):FC X 89 [.sc (.sl (W X8.row a0)),.sc (.sl (W rI a1))] [.sc (.o 5 (W X8.row r))]:=by
 unfold A2e at h
 refine C4 A7 F34 V ?_
 simp only[cc586,A,B,C,E,F,J]
 obtain⟨r1,h1,h⟩:=ob h
 try simp only[A,B,C,E,F,J]
 refine A2 (B5x _ _ _ h1) V V (uf V) ?_
 rcases ic h with ⟨h2,h⟩|⟨h2,h⟩
 ·try simp only[h2,A,B,C,E,F,J]
  refine C7 (es:=W X8.row ([]:N X8)) V V ?_
  try simp only[h2,A,B,C,E,F,J]
  refine F6p _ _ _ _ _ _ h _ ?_
  try simp only[h2,A,B,C,E,F,J,Y]
 ·try simp only[h2,A,B,C,E,F,J]
  cases h
  trivial
/- 88:impl_DivertedCalls_c1 -/
def cc589:X2:=(.seq (.reg [(L,.mv 5 (KB G))]) (.seq (.drw [(H [12],lw 9 1 12),o0 (ld 10 2),o0 (mv 11 0),o0 (ca 12 89 [S 10,S 11]),(H [12],ld 13 3),o0 (ca 14 16 [S 9,S 12,S 13]),o0 (mv 8 14),o0 (xt 15 8 0),o0 (xt 16 8 1),o0 (mv 6 15),o0 (mv 7 16)]) (.seq (.reg [mv 17 7,mv 5 17]) .ret)))
theorem F72:A5 X 88=H (cc589.strip,[5],18):=by kernel_rfl
theorem B2c(a0:N P)(c0:X6)(c1:N X8)(c2:N Xa)(r:Q)(h:K2 a0 c0 c1 c2=H r):FC X 88 [.sc (.sl (W rI a0)),.sc (.pd (X6.row c0)),.sc (.pd ((rL X8.row) c1)),.sc (.pd ((rL zF) c2))] [.sc (.v (.bool r))]:=by
 unfold K2 at h
 refine C4 A7 F72 V ?_
 simp only[cc589,A,B,C,E,F,J]
 try simp only[A,B,C,E,F,J]
 refine C3 V ?_
 obtain⟨r1,h1,h⟩:=ob h
 try simp only[A,B,C,E,F,J]
 refine F9 (FC.asV (rs':= [.sc (.v (.sl (W X8.row r1)))]) (B6b _ _ _ h1) V) V V (uf V) ?_
 obtain⟨r2,h2,h⟩:=ob h
 try simp only[A,B,C,E,F,J]
 refine F9 (A5g _ _ _ _ h2) V V (uf V) ?_
 try simp only[A,B,C,E,F,J]
 cases h
 trivial
/- 182:slices_Index_int -/
def C1f:X2:= .seq (.reg [(L,.keep [0,1,7,8] [] [])]) (.seq (.reg [bn 9 .lss 8 7]) (.seq (.cond (S 9) .skip (.exit 0)) (.seq (.block 1 (.seq (.reg [mv 10 8,mv 5 10]) (.seq (.reg [mv 11 1,mv 12 0,mv 13 5,ia 14 12 13 1,ld 15 14,bn 16 .eql 11 15]) (.cond (S 16) (.seq (.reg [mv 17 5,mv 4 17]) .ret) .skip)))) (.reg [(L,.bin 18 .add (S 8) (K 1)),mv 8 18]))))
def D13:X2:=(.seq (.reg [(L,.mv 4 (K (-1)))]) .ret)
def cc593:X2:=(.seq (.reg [(L,.mv 4 (K 0))]) (.seq (.seq (.reg [mv 6 0,ln 7 6,(L,.mv 8 (K 0))]) (.block 0 (.loop C1f))) D13))
theorem F4m(a0:N P)(a1:P):∀(n:U) (v1 r:P),Q2 a0 a1 n v1=H r→∀σ:St,σ.kept [0,1,7,8] [] []=⟨[(0,vc (aL (W rI a0))),(1,vc (aI a1)),(7,vc (aI (a0.length:P))),(8,vc (aI v1))],[],[]⟩→go X (.code (.loop C1f):: [.blk 0,.code D13]) (Ret [4] [.sc (.v (.int .i64 r))]) .normal (H σ):=by
 intro n
 induction n with
 | zero=>intro _ r h; cases h
 | succ n ih=>
  intro v1 r h σ hσ
  rw[Q2] at h
  refine B0 ?_
  rcases ic h with ⟨h2,h⟩|⟨h2,h⟩
  ·obtain⟨x3,h3,h⟩:=ob h
   rcases ic h with ⟨h4,h⟩|⟨h4,h⟩
   ·try simp only[hσ,h2,h3,h4,C1f,A,B,C,E,F,J]
    cases h
    trivial
   ·try simp only[hσ,h2,h3,h4,C1f,A,B,C,E,F,J]
    refine ih _ _ h _ ?_
    try simp only[h2,h3,h4,A,B,C,E,F,J,Y]
  ·try simp only[hσ,h2,C1f,D13,A,B,C,E,F,J]
   cases h
   trivial
theorem B6m:A5 X 182=H (cc593.strip,[4],19):=by kernel_rfl
theorem B5r(a0:N P)(a1 r:P)(h:A42 a0 a1=H r):FC X 182 [.sc (.sl (W rI a0)),.sc (.int .i64 a1)] [.sc (.v (.int .i64 r))]:=by
 unfold A42 at h
 refine C4 A7 B6m V ?_
 simp only[cc593,A,B,C,E,F,J]
 try simp only[A,B,C,E,F,J]
 refine F4m _ _ _ _ _ h _ ?_
 try simp only[A,B,C,E,F,J,Y]
/- 90:slices_Contains_int -/
def cc595:X2:=(.seq (.reg [(L,.mv 4 (KB G))]) (.seq (.reg [mv 5 0,mv 6 1,ca 7 182 [S 5,S 6],(L,.bin 8 .geq (S 7) (K 0)),mv 4 8]) .ret))
theorem B3z:A5 X 90=H (cc595.strip,[4],9):=by kernel_rfl
theorem B3o(a0:N P)(a1:P)(r:Q)(h:A0l a0 a1=H r):FC X 90 [.sc (.sl (W rI a0)),.sc (.int .i64 a1)] [.sc (.v (.bool r))]:=by
 unfold A0l at h
 refine C4 A7 B3z V ?_
 simp only[cc595,A,B,C,E,F,J]
 obtain⟨r1,h1,h⟩:=ob h
 try simp only[A,B,C,E,F,J]
 refine A2 (B5r _ _ _ h1) V V (uf V) ?_
 try simp only[A,B,C,E,F,J]
 cases h
 trivial
/- 17:impl_DivertedCalls -/
def C59:X2:= .seq (.reg [(L,.keep [3,4,5,21] [3,4,5] [])]) (.cond (S 21) (.seq (.reg [(L,.mv 6 KN),(L,.mv 7 (KB G))]) .ret) .skip)
def C6r:X2:= .seq (.reg [(L,.keep [8,9,27,28] [] [1600])]) (.seq (.reg [bn 29 .lss 28 27]) (.seq (.cond (S 29) .skip (.exit 0)) (.seq (.block 1 (.seq (.reg [mv 30 28,mv 10 30]) (.seq (.reg [mv 31 8,mv 32 10,ca 33 90 [S 31,S 32],nt 34 33]) (.cond (S 34) (.reg [mv 35 9,mv 36 10,(L,.bslice 37 1 [.int .i64 0] 1 [(0,(S 36))]),(L,.app 38 1 8 (S 35) (S 37)),mv 9 38]) .skip)))) (.reg [(L,.bin 39 .add (S 28) (K 1)),mv 28 39]))))
def D1b:X2:=(.seq (.reg [mv 40 9,mv 6 40,(L,.mv 7 (KB T))]) .ret)
def D2y:X2:=(.seq (.reg [ld 22 4,(L,.frzb 3),(L,.frzb 4),(L,.frzb 5),(L,.mkf 23 88 [(S 3),(S 4),(S 5)]),ca 24 87 [S 22,S 23],mv 8 24]) (.seq (.reg [(L,.bslice 25 1 [.int .i64 0] 0 []),mv 9 25]) (.seq (.seq (.reg [ld 26 4,ln 27 26,(L,.mv 28 (K 0))]) (.block 0 (.loop C6r))) D1b)))
def cc600:X2:=(.seq (.reg [bo 3 0,bo 4 1,bo 5 2,(L,.mv 6 KN),(L,.mv 7 (KB G))]) (.seq (.seq (.reg [lw 11 3 12,ld 12 4,ca 13 18 [S 11,S 12],nt 14 13,mv 15 14,(H (15,G),.faddr 16 (S 3) 3),(H (15,G),.load 17 (S 16) T 2),(H (15,G),.load 18 (S 5) G 1),(H (15,G),.call 19 19 [(S 17),(S 18)]),(H (15,G),.un 20 .not (S 19)),po 21 15 20]) C59) D2y))
theorem F1o(r6:(N P))(a1:N X8):∀(n:U) (v7:P) (v8:N P) (r:(N P) × Q),L5 r6 a1 n v7 v8=H r→∀σ:St,σ.kept [8,9,27,28] [] [1600]=⟨[(8,vc (aL (W rI r6))),(9,vc (.own 1600)),(27,vc (aI (a1.length:P))),(28,vc (aI v7))],[],[(1600,1,W rI v8)]⟩→go X (.code (.loop C6r):: [.blk 0,.code D1b]) (Ret [6,7] [.sc (.o 1 (W rI r.1)),.sc (.v (.bool r.2))]) .normal (H σ):=by
 intro n
 induction n with
 | zero=>intro _ _ r h; cases h
 | succ n ih=>
  intro v7 v8 r h σ hσ
  rw[L5] at h
  refine B0 ?_
  rcases ic h with ⟨h9,h⟩|⟨h9,h⟩
  ·obtain⟨r10,h10,h⟩:=ob h
   try simp only[hσ,h9,C6r,A,B,C,E,F,J]
   refine A2 (B3o _ _ _ h10) V V (uf V) ?_
   rcases ic h with ⟨h11,h⟩|⟨h11,h⟩
   ·try simp only[h9,h11,A,B,C,E,F,J]
    refine ih _ _ _ h _ ?_
    try simp only[h9,h11,A,B,C,E,F,J,Y]
   ·try simp only[h9,h11,A,B,C,E,F,J]
    refine C7 (es:=W rI ([v7]:N P)) V V ?_
    obtain⟨h12,h⟩:=D3 h
    try simp only[h9,h11,h12,A,B,C,E,F,J]
    refine ih _ _ _ h _ ?_
    try simp only[h9,h11,h12,A,B,C,E,F,J,Y]
  ·try simp only[hσ,h9,C6r,D1b,A,B,C,E,F,J]
   cases h
   trivial
theorem E2v(a0:X6)(a1:N X8)(a2:N Xa)(v4:Q)(r:(N P) × Q)(h:Z3 a0 a1 a2 v4=H r)(σ:St)(hσ:σ.kept [3,4,5,21] [3,4,5] []=⟨[(3,vc (.pb 3 0)),(4,vc (.pb 4 0)),(5,vc (.pb 5 0)),(21,vc (aB v4))],[(3,(dm a0.row)),(4,[aL (W X8.row a1)]),(5,[aL (W zF a2)])],[]⟩):go X (.code C59:: [.code D2y]) (Ret [6,7] [.sc (.o 1 (W rI r.1)),.sc (.v (.bool r.2))]) .normal (H σ):=by
 unfold Z3 at h
 rcases ic h with ⟨h5,h⟩|⟨h5,h⟩
 ·try simp only[hσ,h5,C59,A,B,C,E,F,J]
  cases h
  trivial
 ·try simp only[hσ,h5,C59,D2y,A,B,C,E,F,J]
  refine B37 V V ?_
  try simp only[h5,zE,A,B,C,E,F,J]
  refine B37 V V ?_
  try simp only[h5,zE,A,B,C,E,F,J]
  refine B37 V V ?_
  obtain⟨r6,h6,h⟩:=ob h
  try simp only[h5,zE,A,B,C,E,F,J]
  refine A2 (B2e _ _ _ 88 [.pd (X6.row a0),.pd ((rL X8.row) a1),.pd ((rL zF) a2)] (by kernel_rfl) (fun z0 zr zh=>B2c z0 a0 a1 a2 zr zh) h6) V V (uf V) ?_
  try simp only[h5,zE,A,B,C,E,F,J]
  refine C7 (es:=W rI ([]:N P)) V V ?_
  try simp only[h5,zE,A,B,C,E,F,J]
  refine F1o _ _ _ _ _ _ h _ ?_
  try simp only[h5,zE,A,B,C,E,F,J,Y]
theorem F4t:A5 X 17=H (cc600.strip,[6,7],41):=by kernel_rfl
theorem B36(a0:X6)(a1:N X8)(a2:N Xa)(r:(N P) × Q)(h:A03 a0 a1 a2=H r):FC X 17 [.ag (X6.row a0),.sc (.sl (W X8.row a1)),.sc (.sl (W zF a2))] [.sc (.o 1 (W rI r.1)),.sc (.v (.bool r.2))]:=by
 unfold A03 at h
 refine C4 A7 F4t V ?_
 simp only[cc600,A,B,C,E,F,J]
 try simp only[A,B,C,E,F,J]
 refine B2 V V V ?_
 try simp only[A,B,C,E,F,J]
 refine B2 V V V ?_
 try simp only[A,B,C,E,F,J]
 refine B2 V V V ?_
 obtain⟨r1,h1,h⟩:=ob h
 try simp only[A,B,C,E,F,J]
 refine A2 (A5t _ _ _ h1) V V (uf V) ?_
 rcases ic h with ⟨h2,h⟩|⟨h2,h⟩
 ·obtain⟨r3,h3,h⟩:=ob h
  try simp only[h2,A,B,C,E,F,J]
  refine A2 (A5a _ _ _ h3) V V (uf V) ?_
  try simp only[h2,A,B,C,E,F,J]
  refine E2v _ _ _ _ _ h _ ?_
  try simp only[h2,A,B,C,E,F,J,Y]
 ·try simp only[h2,A,B,C,E,F,J]
  refine E2v _ _ _ _ _ h _ ?_
  try simp only[h2,A,B,C,E,F,J,Y]
/- 22:laws_has -/
def C0z:X2:= .seq (.reg [(L,.keep [1,7,8,9] [] [])]) (.seq (.reg [bn 10 .lss 9 8]) (.seq (.cond (S 10) .skip (.exit 0)) (.seq (.block 1 (.seq (.reg [ia 11 7 9 1,ld 12 11,mv 6 12]) (.seq (.reg [mv 13 6,mv 14 1,bn 15 .eql 13 14]) (.cond (S 15) (.seq (.reg [(L,.mv 4 (KB T))]) .ret) .skip)))) (.reg [(L,.bin 16 .add (S 9) (K 1)),mv 9 16]))))
def D3o:X2:=(.seq (.reg [(L,.mv 4 (KB G))]) .ret)
def cc606:X2:=(.seq (.reg [(L,.mv 4 (KB G))]) (.seq (.seq (.reg [mv 7 0,ln 8 7,(L,.mv 9 (K 0))]) (.block 0 (.loop C0z))) D3o))
theorem F4i(a1:P)(a0:N P):∀(n:U) (v1:P) (r:Q),A3z a1 a0 n v1=H r→∀σ:St,σ.kept [1,7,8,9] [] []=⟨[(1,vc (aI a1)),(7,vc (aL (W rI a0))),(8,vc (aI (a0.length:P))),(9,vc (aI v1))],[],[]⟩→go X (.code (.loop C0z):: [.blk 0,.code D3o]) (Ret [4] [.sc (.v (.bool r))]) .normal (H σ):=by
 intro n
 induction n with
 | zero=>intro _ r h; cases h
 | succ n ih=>
  intro v1 r h σ hσ
  rw[A3z] at h
  refine B0 ?_
  rcases ic h with ⟨h2,h⟩|⟨h2,h⟩
  ·obtain⟨x3,h3,h⟩:=ob h
   rcases ic h with ⟨h4,h⟩|⟨h4,h⟩
   ·try simp only[hσ,h2,h3,h4,C0z,A,B,C,E,F,J]
    cases h
    trivial
   ·try simp only[hσ,h2,h3,h4,C0z,A,B,C,E,F,J]
    refine ih _ _ h _ ?_
    try simp only[h2,h3,h4,A,B,C,E,F,J,Y]
  ·try simp only[hσ,h2,C0z,D3o,A,B,C,E,F,J]
   cases h
   trivial
theorem F6n:A5 X 22=H (cc606.strip,[4],17):=by kernel_rfl
theorem D1y(a0:N P)(a1:P)(r:Q)(h:B04 a0 a1=H r):FC X 22 [.sc (.sl (W rI a0)),.sc (.int .i64 a1)] [.sc (.v (.bool r))]:=by
 unfold B04 at h
 refine C4 A7 F6n V ?_
 simp only[cc606,A,B,C,E,F,J]
 try simp only[A,B,C,E,F,J]
 refine F4i _ _ _ _ _ h _ ?_
 try simp only[A,B,C,E,F,J,Y]
/- 107:impl_allOptions -/
def C6w:X2:= .seq (.reg [(L,.keep [2,5,9,10,11] [2] [512])]) (.seq (.reg [bn 12 .lss 11 10]) (.seq (.cond (S 12) .skip (.exit 0)) (.seq (.block 1 (.seq (.reg [ia 13 9 11 5,lw 14 13 5,(L,.alloc 7 [aI 0,aI 0,aI 0,aI 0,aI 0]),so 7 14 5]) (.reg [mv 15 5,lw 16 2 12,lw 17 7 5,ca 18 24 [S 16,S 17],(L,.frz 1152),(L,.bslice 19 1 [.sl []] 1 [(0,(S 18))]),(L,.app 20 1 24 (S 15) (S 19)),mv 5 20]))) (.reg [(L,.bin 21 .add (S 11) (K 1)),mv 11 21]))))
def D25:X2:=(.seq (.reg [mv 22 5,mv 4 22]) .ret)
def cc611:X2:=(.seq (.reg [bo 2 0,(L,.mv 4 KN)]) (.seq (.reg [(L,.bslice 8 1 [.sl []] 0 []),mv 5 8]) (.seq (.seq (.reg [mv 9 1,ln 10 9,(L,.mv 11 (K 0))]) (.block 0 (.loop C6w))) D25)))
theorem F1x(a1:N X8)(a0:X6):∀(n:U) (v1:P) (v2:N (N X0)) (r:(N (N X0))),S6 a1 a0 n v1 v2=H r→∀σ:St,σ.kept [2,5,9,10,11] [2] [512]=⟨[(2,vc (.pb 2 0)),(5,vc (.own 512)),(9,vc (aL (W X8.row a1))),(10,vc (aI (a1.length:P))),(11,vc (aI v1))],[(2,(dm a0.row))],[(512,1,W (rL X0.row) v2)]⟩→go X (.code (.loop C6w):: [.blk 0,.code D25]) (Ret [4] [.sc (.o 1 (W (rL X0.row) r))]) .normal (H σ):=by
 intro n
 induction n with
 | zero=>intro _ _ r h; cases h
 | succ n ih=>
  intro v1 v2 r h σ hσ
  rw[S6] at h
  refine B0 ?_
  rcases ic h with ⟨h3,h⟩|⟨h3,h⟩
  ·obtain⟨x4,h4,h⟩:=ob h
   try simp only[hσ,h3,h4,C6w,A,B,C,E,F,J]
   refine D7 V V ?_
   obtain⟨r5,h5,h⟩:=ob h
   try simp only[h3,h4,A,B,C,E,F,J]
   refine A2 (A77 _ _ _ h5) V V (uf V) ?_
   try simp only[h3,h4,A,B,C,E,F,J]
   refine O5 V ?_
   try simp only[h3,h4,A,B,C,E,F,J]
   refine C7 (es:=W (rL X0.row) ([r5]:N (N X0))) V V ?_
   obtain⟨h6,h⟩:=D3 h
   try simp only[h3,h4,h6,A,B,C,E,F,J]
   refine ih _ _ _ h _ ?_
   try simp only[h3,h4,h6,A,B,C,E,F,J,Y]
  ·try simp only[hσ,h3,C6w,D25,A,B,C,E,F,J]
   cases h
   trivial
theorem F18:A5 X 107=H (cc611.strip,[4],23):=by kernel_rfl
theorem B8n(a0:X6)(a1:N X8)(r:(N (N X0)))(h:A26 a0 a1=H r):FC X 107 [.ag (X6.row a0),.sc (.sl (W X8.row a1))] [.sc (.o 1 (W (rL X0.row) r))]:=by
 unfold A26 at h
 refine C4 A7 F18 V ?_
 simp only[cc611,A,B,C,E,F,J]
 try simp only[A,B,C,E,F,J]
 refine B2 V V V ?_
 try simp only[A,B,C,E,F,J]
 refine C7 (es:=W (rL X0.row) ([]:N (N X0))) V V ?_
 try simp only[A,B,C,E,F,J]
 refine F1x _ _ _ _ _ _ h _ ?_
 try simp only[A,B,C,E,F,J,Y]
/- 27:impl_BestPlan -/
def cc614:X2:=(.seq (.reg [bo 2 0,(L,.mv 4 KN),(L,.mv 5 (K 0)),(L,.mv 6 (KB G))]) (.seq (.seq (.reg [lw 10 2 12,mv 11 1,ca 12 18 [S 10,S 11],nt 13 12]) (.cond (S 13) (.seq (.reg [(L,.mv 4 KN),(L,.mv 5 (K 0)),(L,.mv 6 (KB G))]) .ret) .skip)) (.seq (.drw [(H [18,8],lw 15 2 12),(H [8],lw 16 2 12),(H [8],mv 17 1),(H [8],ca 18 107 [S 16,S 17]),(H [8],ca 19 84 [S 15,S 18,.c (.v (.sc (.dat (.clo 85 []))))]),(H [8],mv 14 19),(H [8],xt 20 14 0),(H [8],xt 21 14 1),(H [8],xt 22 14 2),(H [18,19],(L,.alloc 8 [aI 0,aI 0])),o0 (mv 7 20),(L,so 8 21 2),o0 (mv 9 22)]) (.seq (.drw [o0 (mv 23 7),o0 (fa 24 8 0),o0 (ld 25 24),o0 (mv 26 9),o0 (mv 4 23),o0 (mv 5 25),o0 (mv 6 26)]) .ret))))
theorem F62:A5 X 27=H (cc614.strip,[4,5,6],27):=by kernel_rfl
theorem C1e(a0:X6)(a1:N X8)(r:(N P) × P × Q)(h:A6u a0 a1=H r):FC X 27 [.ag (X6.row a0),.sc (.sl (W X8.row a1))] [.sc (.o 1 (W rI r.1)),.sc (.v (.int .i64 r.2.1)),.sc (.v (.bool r.2.2))]:=by
 unfold A6u at h
 refine C4 A7 F62 V ?_
 simp only[cc614,A,B,C,E,F,J]
 try simp only[A,B,C,E,F,J]
 refine B2 V V V ?_
 obtain⟨r1,h1,h⟩:=ob h
 try simp only[A,B,C,E,F,J]
 refine A2 (A5t _ _ _ h1) V V (uf V) ?_
 rcases ic h with ⟨h2,h⟩|⟨h2,h⟩
 ·try simp only[h2,A,B,C,E,F,J]
  refine C3 V ?_
  obtain⟨r3,h3,h⟩:=ob h
  try simp only[h2,A,B,C,E,F,J]
  refine F9 (B8n _ _ _ h3) V V (uf V) ?_
  obtain⟨r4,h4,h⟩:=ob h
  try simp only[h2,A,B,C,E,F,J]
  refine B9i (B1r _ _ _ _ 85 [] (by kernel_rfl) (fun z0 zr zh=>B5a z0 zr zh) h4) (by first | rfl | kernel_rfl) (A7z V ⟨A7y,V,V,V,⟨⟩⟩) V (uf V) ?_
  try simp only[h2,A,B,C,E,F,J]
  refine C8s (m:= .box 8 [aI (0:P),aI (0:P)]) V V (B4p V V) ?_
  try simp only[h2,A,B,C,E,F,J]
  refine C3 V ?_
  try simp only[h2,A,B,C,E,F,J]
  refine C3 V ?_
  try simp only[h2,A,B,C,E,F,J]
  cases h
  trivial
 ·try simp only[h2,A,B,C,E,F,J]
  cases h
  trivial
/- 25:impl_CanServe -/
def cc616:X2:=(.seq (.reg [bo 2 0,(L,.mv 4 (KB G))]) (.seq (.reg [lw 9 2 12,mv 10 1,ca 11 27 [S 9,S 10],mv 8 11,xt 12 8 0,xt 13 8 1,xt 14 8 2,mv 5 12,mv 6 13,mv 7 14]) (.seq (.reg [mv 15 7,mv 4 15]) .ret)))
theorem F1p:A5 X 25=H (cc616.strip,[4],16):=by kernel_rfl
theorem C13(a0:X6)(a1:N X8)(r:Q)(h:A4q a0 a1=H r):FC X 25 [.ag (X6.row a0),.sc (.sl (W X8.row a1))] [.sc (.v (.bool r))]:=by
 unfold A4q at h
 refine C4 A7 F1p V ?_
 simp only[cc616,A,B,C,E,F,J]
 try simp only[A,B,C,E,F,J]
 refine B2 V V V ?_
 obtain⟨r1,h1,h⟩:=ob h
 try simp only[A,B,C,E,F,J]
 refine A2 (C1e _ _ _ h1) V V (uf V) ?_
 try simp only[A,B,C,E,F,J]
 cases h
 trivial
/- 199:impl_OptionAt -/
def C6a:X2:= .seq (.reg [(L,.keep [2,3,4,5,8,25] [4,5,8] [])]) (.cond (S 25) (.seq (.reg [(L,.build 26 [aI 0,aI 0,aI 0,.nil] []),so 8 26 4,(L,.mv 9 (KB G))]) .ret) .skip)
def D45:X2:=(.seq (.reg [lw 28 4 12,lw 29 5 5,mv 30 2,ca 31 103 [S 28,S 29,S 30],mv 27 31,xt 32 27 0,xt 33 27 1,(L,.alloc 10 [.nil,.nil,.nil]),so 10 32 3,mv 11 33]) (.seq (.seq (.reg [mv 34 11,nt 35 34]) (.cond (S 35) (.seq (.reg [(L,.build 36 [aI 0,aI 0,aI 0,.nil] []),so 8 36 4,(L,.mv 9 (KB G))]) .ret) .skip)) (.seq (.reg [lw 38 4 12,lw 39 5 5,lw 40 10 3,mv 41 2,mv 42 3,ca 43 104 [S 38,S 39,S 40,S 41,S 42],mv 37 43,xt 44 37 0,xt 45 37 1,(L,.alloc 12 [aI 0,aI 0,aI 0,.nil]),so 12 44 4,mv 11 45]) (.seq (.seq (.reg [mv 46 11,nt 47 46]) (.cond (S 47) (.seq (.reg [(L,.build 48 [aI 0,aI 0,aI 0,.nil] []),so 8 48 4,(L,.mv 9 (KB G))]) .ret) .skip)) (.seq (.reg [lw 49 12 4,so 8 49 4,(L,.mv 9 (KB T))]) .ret)))))
def cc620:X2:=(.seq (.reg [bo 4 0,bo 5 1,(L,.alloc 8 [aI 0,aI 0,aI 0,.nil]),(L,.mv 9 (KB G))]) (.seq (.seq (.reg [lw 13 4 12,lw 14 5 5,ca 15 99 [S 13,S 14],nt 16 15,mv 17 16,(H (17,G),.mv 18 (S 3)),(H (17,G),.faddr 19 (S 5) 3),(H (17,G),.load 20 (S 19) G 1),(H (17,G),.faddr 21 (S 5) 4),(H (17,G),.load 22 (S 21) G 1),(H (17,G),.call 23 114 [(S 18),(S 20),(S 22)]),(H (17,G),.un 24 .not (S 23)),po 25 17 24]) C6a) D45))
theorem E2w(a2:N P)(a3:P)(a0:X6)(a1:X8)(v4:Q)(r:X0 × Q)(h:A2x a2 a3 a0 a1 v4=H r)(σ:St)(hσ:σ.kept [2,3,4,5,8,25] [4,5,8] []=⟨[(2,vc (aL (W rI a2))),(3,vc (aI a3)),(4,vc (.pb 4 0)),(5,vc (.pb 5 0)),(8,vc (.pb 8 0)),(25,vc (aB v4))],[(4,(dm a0.row)),(5,(dm a1.row)),(8,[aI (0:P),aI (0:P),aI (0:P),.nil])],[]⟩):go X (.code C6a:: [.code D45]) (Ret [.c 8 T 4,9] [.ag [.v (.int .i64 r.1.Start),.v (.int .i64 r.1.Arrival),.v (.int .i64 r.1.Cost),.o 5 (W X4.row r.1.Passages)],.sc (.v (.bool r.2))]) .normal (H σ):=by
 unfold A2x at h
 rcases ic h with ⟨h5,h⟩|⟨h5,h⟩
 ·try simp only[hσ,h5,C6a,A,B,C,E,F,J]
  cases h
  try simp only[Q8,A,B,C,E,F,J]
  trivial
 ·obtain⟨r6,h6,h⟩:=ob h
  try simp only[hσ,h5,C6a,D45,A,B,C,E,F,J]
  refine A2 (B0o _ _ _ _ h6) V V (uf V) ?_
  try simp only[h5,A,B,C,E,F,J]
  refine D7 V V ?_
  rcases ic h with ⟨h7,h⟩|⟨h7,h⟩
  ·obtain⟨r9,h9,h⟩:=ob h
   try simp only[h5,h7,A,B,C,E,F,J]
   refine R4 (B5e _ _ _ _ _ _ h9) V (A7z V ⟨V,V,V,A7y,V,⟨⟩⟩) V (uf V) ?_
   try simp only[h5,h7,A,B,C,E,F,J]
   refine D7 V V ?_
   rcases ic h with ⟨h10,h⟩|⟨h10,h⟩
   ·try simp only[h5,h7,h10,A,B,C,E,F,J]
    cases h
    try simp only[Q8,A,B,C,E,F,J]
    trivial
   ·try simp only[h5,h7,h10,A,B,C,E,F,J]
    cases h
    try simp only[Q8,A,B,C,E,F,J]
    trivial
  ·try simp only[h5,h7,A,B,C,E,F,J]
   cases h
   try simp only[Q8,A,B,C,E,F,J]
   trivial
theorem F4l:A5 X 199=H (cc620.strip,[.c 8 T 4,9],50):=by kernel_rfl
theorem C15(a0:X6)(a1:X8)(a2:N P)(a3:P)(r:X0 × Q)(h:A4x a0 a1 a2 a3=H r):FC X 199 [.ag (X6.row a0),.ag (X8.row a1),.sc (.sl (W rI a2)),.sc (.int .i64 a3)] [.ag [.v (.int .i64 r.1.Start),.v (.int .i64 r.1.Arrival),.v (.int .i64 r.1.Cost),.o 5 (W X4.row r.1.Passages)],.sc (.v (.bool r.2))]:=by
 unfold A4x at h
 refine C4 A7 F4l V ?_
 simp only[cc620,A,B,C,E,F,J]
 try simp only[A,B,C,E,F,J]
 refine B2 V V V ?_
 try simp only[A,B,C,E,F,J]
 refine B2 V V V ?_
 try simp only[A,B,C,E,F,J]
 refine D7 V V ?_
 obtain⟨r1,h1,h⟩:=ob h
 try simp only[A,B,C,E,F,J]
 refine A2 (B0g _ _ _ h1) V V (uf V) ?_
 rcases ic h with ⟨h2,h⟩|⟨h2,h⟩
 ·obtain⟨r3,h3,h⟩:=ob h
  try simp only[h2,A,B,C,E,F,J]
  refine A2 (G3 _ _ _ _ h3) V V (uf V) ?_
  try simp only[h2,A,B,C,E,F,J]
  refine E2w _ _ _ _ _ _ h _ ?_
  try simp only[h2,A,B,C,E,F,J,Y]
 ·try simp only[h2,A,B,C,E,F,J]
  refine E2w _ _ _ _ _ _ h _ ?_
  try simp only[h2,A,B,C,E,F,J,Y]
/- 276:slices_Equal_Passage -/
def C6k:X2:= .seq (.reg [(L,.keep [0,1,12,13] [] [])]) (.seq (.reg [bn 14 .lss 13 12]) (.seq (.cond (S 14) .skip (.exit 0)) (.seq (.block 1 (.seq (.reg [mv 15 13,mv 5 15]) (.seq (.drw [o0 (mv 16 0),o0 (mv 17 5),o0 (ia 18 16 17 5),o0 (lw 19 18 5),o0 (mv 20 1),o0 (mv 21 5),o0 (ia 22 20 21 5),o0 (lw 23 22 5),o0 (L,.geq 24 T [.i,.i,.b,.i,.i] (S 19) (S 23))]) (.cond (S 24) (.seq (.reg [(L,.mv 4 (KB G))]) .ret) .skip)))) (.reg [(L,.bin 25 .add (S 13) (K 1)),mv 13 25]))))
def D2v:X2:=(.seq (.reg [(L,.mv 4 (KB T))]) .ret)
def cc625:X2:=(.seq (.reg [(L,.mv 4 (KB G))]) (.seq (.seq (.reg [mv 6 0,ln 7 6,mv 8 1,ln 9 8,bn 10 .neq 7 9]) (.cond (S 10) (.seq (.reg [(L,.mv 4 (KB G))]) .ret) .skip)) (.seq (.seq (.reg [mv 11 0,ln 12 11,(L,.mv 13 (K 0))]) (.block 0 (.loop C6k))) D2v)))
theorem F7v(a0 a1:N X4):∀(n:U) (v2:P) (r:Q),M4 a0 a1 n v2=H r→∀σ:St,σ.kept [0,1,12,13] [] []=⟨[(0,vc (aL (W X4.row a0))),(1,vc (aL (W X4.row a1))),(12,vc (aI (a0.length:P))),(13,vc (aI v2))],[],[]⟩→go X (.code (.loop C6k):: [.blk 0,.code D2v]) (Ret [4] [.sc (.v (.bool r))]) .normal (H σ):=by
 intro n
 induction n with
 | zero=>intro _ r h; cases h
 | succ n ih=>
  intro v2 r h σ hσ
  rw[M4] at h
  refine B0 ?_
  rcases ic h with ⟨h3,h⟩|⟨h3,h⟩
  ·try simp only[hσ,h3,C6k,A,B,C,E,F,J]
   refine C3 V ?_
   obtain⟨x4,h4,h⟩:=ob h
   obtain⟨x5,h5,h⟩:=ob h
   rcases ic h with ⟨h6,h⟩|⟨h6,h⟩
   ·try simp only[h3,h4,h5,h6,A,B,C,E,F,J]
    refine ih _ _ h _ ?_
    try simp only[h3,h4,h5,h6,A,B,C,E,F,J,Y]
   ·try simp only[h3,h4,h5,h6,A,B,C,E,F,J]
    cases h
    trivial
  ·try simp only[hσ,h3,C6k,D2v,A,B,C,E,F,J]
   cases h
   trivial
theorem B25:A5 X 276=H (cc625.strip,[4],26):=by kernel_rfl
theorem B3c(a0 a1:N X4)(r:Q)(h:Z1 a0 a1=H r):FC X 276 [.sc (.sl (W X4.row a0)),.sc (.sl (W X4.row a1))] [.sc (.v (.bool r))]:=by
 unfold Z1 at h
 refine C4 A7 B25 V ?_
 simp only[cc625,A,B,C,E,F,J]
 rcases ic h with ⟨h1,h⟩|⟨h1,h⟩
 ·try simp only[h1,A,B,C,E,F,J]
  cases h
  trivial
 ·try simp only[h1,A,B,C,E,F,J]
  refine F7v _ _ _ _ _ h _ ?_
  try simp only[h1,A,B,C,E,F,J,Y]
/- 200:impl_SameOptions -/
def cc627:X2:=(.seq (.reg [bo 2 0,bo 3 1,(L,.mv 4 (KB G))]) (.seq (.reg [fa 5 2 0,ld 6 5,fa 7 3 0,ld 8 7,bn 9 .eql 6 8,mv 10 9,(H (10,T),.faddr 11 (S 2) 1),(H (10,T),.load 12 (S 11) G 1),(H (10,T),.faddr 13 (S 3) 1),(H (10,T),.load 14 (S 13) G 1),(H (10,T),.bin 15 .eql (S 12) (S 14)),pa 16 10 15,mv 17 16,(H (17,T),.faddr 18 (S 2) 2),(H (17,T),.load 19 (S 18) G 1),(H (17,T),.faddr 20 (S 3) 2),(H (17,T),.load 21 (S 20) G 1),(H (17,T),.bin 22 .eql (S 19) (S 21)),pa 23 17 22,mv 24 23,(H (24,T),.faddr 25 (S 2) 3),(H (24,T),.load 26 (S 25) G 1),(H (24,T),.faddr 27 (S 3) 3),(H (24,T),.load 28 (S 27) G 1),(H (24,T),.call 29 276 [(S 26),(S 28)]),pa 30 24 29,mv 4 30]) .ret))
theorem F8c:A5 X 200=H (cc627.strip,[4],31):=by kernel_rfl
theorem B5y(a0 a1:X0)(r:Q)(h:A2f a0 a1=H r):FC X 200 [.ag (X0.row a0),.ag (X0.row a1)] [.sc (.v (.bool r))]:=by
 unfold A2f at h
 refine C4 A7 F8c V ?_
 simp only[cc627,A,B,C,E,F,J]
 try simp only[A,B,C,E,F,J]
 refine B2 V V V ?_
 try simp only[A,B,C,E,F,J]
 refine B2 V V V ?_
 rcases ic h with ⟨h1,h⟩|⟨h1,h⟩
 ·rcases ic h with ⟨h2,h⟩|⟨h2,h⟩
  ·rcases ic h with ⟨h3,h⟩|⟨h3,h⟩
   ·obtain⟨r4,h4,h⟩:=ob h
    try simp only[h1,h2,h3,A,B,C,E,F,J]
    refine A2 (B3c _ _ _ h4) V V (uf V) ?_
    try simp only[h1,h2,h3,A,B,C,E,F,J]
    cases h
    trivial
   ·try simp only[h1,h2,h3,A,B,C,E,F,J]
    cases h
    trivial
  ·try simp only[h1,h2,A,B,C,E,F,J]
   cases h
   trivial
 ·try simp only[h1,A,B,C,E,F,J]
  cases h
  trivial
/- 105:impl_IsOption -/
def C5z:X2:= .seq (.reg [(L,.keep [3,4,5,7,14,15,16] [3,4,5] [768])]) (.seq (.reg [bn 17 .lss 16 15]) (.seq (.cond (S 17) .skip (.exit 0)) (.seq (.block 1 (.seq (.reg [ia 18 14 16 5,lw 19 18 5,(L,.alloc 9 [aI 0,aI 0,aB G,aI 0,aI 0]),so 9 19 5]) (.reg [mv 20 7,fa 21 9 1,ld 22 21,(L,.bslice 23 1 [.int .i64 0] 1 [(0,(S 22))]),(L,.app 24 1 8 (S 20) (S 23)),mv 7 24]))) (.reg [(L,.bin 25 .add (S 16) (K 1)),mv 16 25]))))
def D2o:X2:=(.seq (.reg [lw 27 3 12,lw 28 4 5,mv 29 7,fa 30 5 0,ld 31 30,ca 32 199 [S 27,S 28,S 29,S 31],mv 26 32,xt 33 26 0,xt 34 26 1,(L,.alloc 10 [aI 0,aI 0,aI 0,.nil]),so 10 33 4,mv 11 34]) (.seq (.reg [mv 35 11,mv 36 35,(H (36,T),.load 37 (S 10) T 4),(H (36,T),.load 38 (S 5) T 4),(H (36,T),.call 39 200 [(S 37),(S 38)]),pa 40 36 39,mv 6 40]) .ret))
def cc631:X2:=(.seq (.reg [bo 3 0,bo 4 1,bo 5 2,(L,.mv 6 (KB G))]) (.seq (.reg [(L,.bslice 12 1 [.int .i64 0] 0 []),mv 7 12]) (.seq (.seq (.reg [fa 13 5 3,ld 14 13,ln 15 14,(L,.mv 16 (K 0))]) (.block 0 (.loop C5z))) D2o)))
theorem F6s(a2:X0)(a0:X6)(a1:X8):∀(n:U) (v1:P) (v2:N P) (r:Q),Y3 a2 a0 a1 n v1 v2=H r→∀σ:St,σ.kept [3,4,5,7,14,15,16] [3,4,5] [768]=⟨[(3,vc (.pb 3 0)),(4,vc (.pb 4 0)),(5,vc (.pb 5 0)),(7,vc (.own 768)),(14,vc (aL (W X4.row a2.Passages))),(15,vc (aI (a2.Passages.length:P))),(16,vc (aI v1))],[(3,(dm a0.row)),(4,(dm a1.row)),(5,(dm a2.row))],[(768,1,W rI v2)]⟩→go X (.code (.loop C5z):: [.blk 0,.code D2o]) (Ret [6] [.sc (.v (.bool r))]) .normal (H σ):=by
 intro n
 induction n with
 | zero=>intro _ _ r h; cases h
 | succ n ih=>
  intro v1 v2 r h σ hσ
  rw[Y3] at h
  refine B0 ?_
  rcases ic h with ⟨h3,h⟩|⟨h3,h⟩
  ·obtain⟨x4,h4,h⟩:=ob h
   try simp only[hσ,h3,h4,C5z,A,B,C,E,F,J]
   refine D7 V V ?_
   try simp only[h3,h4,A,B,C,E,F,J]
   refine C7 (es:=W rI ([x4.Segment]:N P)) V V ?_
   obtain⟨h5,h⟩:=D3 h
   try simp only[h3,h4,h5,A,B,C,E,F,J]
   refine ih _ _ _ h _ ?_
   try simp only[h3,h4,h5,A,B,C,E,F,J,Y]
  ·obtain⟨r6,h6,h⟩:=ob h
   try simp only[hσ,h3,C5z,D2o,A,B,C,E,F,J]
   refine R4 (C15 _ _ _ _ _ h6) V (A7z V ⟨V,V,V,A7y,V,⟨⟩⟩) V (uf V) ?_
   try simp only[h3,A,B,C,E,F,J]
   refine D7 V V ?_
   rcases ic h with ⟨h7,h⟩|⟨h7,h⟩
   ·obtain⟨r9,h9,h⟩:=ob h
    try simp only[h3,h7,A,B,C,E,F,J]
    refine R4 (B5y _ _ _ h9) V (R5 V) V (uf V) ?_
    try simp only[h3,h7,A,B,C,E,F,J]
    cases h
    trivial
   ·try simp only[h3,h7,A,B,C,E,F,J]
    cases h
    trivial
theorem F40:A5 X 105=H (cc631.strip,[6],41):=by kernel_rfl
theorem C0t(a0:X6)(a1:X8)(a2:X0)(r:Q)(h:A4l a0 a1 a2=H r):FC X 105 [.ag (X6.row a0),.ag (X8.row a1),.ag (X0.row a2)] [.sc (.v (.bool r))]:=by
 unfold A4l at h
 refine C4 A7 F40 V ?_
 simp only[cc631,A,B,C,E,F,J]
 try simp only[A,B,C,E,F,J]
 refine B2 V V V ?_
 try simp only[A,B,C,E,F,J]
 refine B2 V V V ?_
 try simp only[A,B,C,E,F,J]
 refine B2 V V V ?_
 try simp only[A,B,C,E,F,J]
 refine C7 (es:=W rI ([]:N P)) V V ?_
 try simp only[A,B,C,E,F,J]
 refine F6s _ _ _ _ _ _ _ h _ ?_
 try simp only[A,B,C,E,F,J,Y]
/- 26:impl_IsPlan -/
def C6j:X2:= .seq (.reg [(L,.keep [2,3,20,21,22] [3] [])]) (.seq (.reg [bn 23 .lss 22 21]) (.seq (.cond (S 23) .skip (.exit 0)) (.seq (.block 1 (.seq (.reg [mv 24 22,ia 25 20 22 5,lw 26 25 5,(L,.alloc 8 [aI 0,aI 0,aI 0,aI 0,aI 0]),mv 7 24,so 8 26 5]) (.seq (.drw [o0 (lw 27 3 12),o0 (lw 28 8 5),o0 (mv 29 2),o0 (mv 30 7),o0 (ia 31 29 30 4),o0 (lw 32 31 4),o0 (ca 33 105 [S 27,S 28,S 32]),o0 (nt 34 33),o0 (mv 35 34),o0 (H (35,G),.load 36 (S 3) T 12),o0 (H (35,G),.mv 37 (S 2)),o0 (H (35,G),.mv 38 (S 7)),o0 (H (35,G),.slc 39 4 (S 37) L (H (S 38)) L),o0 (H (35,G),.mv 40 (S 2)),o0 (H (35,G),.mv 41 (S 7)),o0 (H (35,G),.iaddr 42 (S 40) (S 41) 4),o0 (H (35,G),.load 43 (S 42) T 4),o0 (H (35,G),.call 44 106 [(S 36),(S 39),(S 43)]),o0 (H (35,G),.un 45 .not (S 44)),o0 (po 46 35 45)]) (.cond (S 46) (.seq (.reg [(L,.mv 6 (KB G))]) .ret) .skip)))) (.reg [(L,.bin 47 .add (S 22) (K 1)),mv 22 47]))))
def D1m:X2:=(.seq (.reg [(L,.mv 6 (KB T))]) .ret)
def cc636:X2:=(.seq (.reg [bo 3 0,(L,.mv 6 (KB G))]) (.seq (.seq (.reg [lw 9 3 12,mv 10 1,ca 11 18 [S 9,S 10],nt 12 11,mv 13 12,(H (13,G),.mv 14 (S 2)),(H (13,G),.len 15 (S 14)),(H (13,G),.mv 16 (S 1)),(H (13,G),.len 17 (S 16)),(H (13,G),.bin 18 .neq (S 15) (S 17)),po 19 13 18]) (.cond (S 19) (.seq (.reg [(L,.mv 6 (KB G))]) .ret) .skip)) (.seq (.seq (.reg [mv 20 1,ln 21 20,(L,.mv 22 (K 0))]) (.block 0 (.loop C6j))) D1m)))
theorem F61(a2:N X0)(a1:N X8)(a0:X6):∀(n:U) (v4:P) (r:Q),A0w a2 a1 a0 n v4=H r→∀σ:St,σ.kept [2,3,20,21,22] [3] []=⟨[(2,vc (aL (W X0.row a2))),(3,vc (.pb 3 0)),(20,vc (aL (W X8.row a1))),(21,vc (aI (a1.length:P))),(22,vc (aI v4))],[(3,(dm a0.row))],[]⟩→go X (.code (.loop C6j):: [.blk 0,.code D1m]) (Ret [6] [.sc (.v (.bool r))]) .normal (H σ):=by
 intro n
 induction n with
 | zero=>intro _ r h; cases h
 | succ n ih=>
  intro v4 r h σ hσ
  rw[A0w] at h
  refine B0 ?_
  rcases ic h with ⟨h5,h⟩|⟨h5,h⟩
  ·obtain⟨x6,h6,h⟩:=ob h
   try simp only[hσ,h5,h6,C6j,A,B,C,E,F,J]
   refine D7 V V ?_
   try simp only[h5,h6,A,B,C,E,F,J]
   refine C3 V ?_
   obtain⟨x7,h7,h⟩:=ob h
   obtain⟨r9,h9,h⟩:=ob h
   try simp only[h5,h6,h7,A,B,C,E,F,J]
   refine F9 (C0t _ _ _ _ h9) V V (uf V) ?_
   rcases ic h with ⟨h10,h⟩|⟨h10,h⟩
   ·obtain⟨p11,h11,h⟩:=ob h
    obtain⟨r12,h12,h⟩:=ob h
    try simp only[h5,h6,h7,h10,h11,A,B,C,E,F,J]
    refine F9 (B47 _ _ _ _ h12) V V (uf V) ?_
    rcases ic h with ⟨h13,h⟩|⟨h13,h⟩
    ·try simp only[h5,h6,h7,h10,h11,h13,A,B,C,E,F,J]
     refine ih _ _ h _ ?_
     try simp only[h5,h6,h7,h10,h11,h13,A,B,C,E,F,J,Y]
    ·try simp only[h5,h6,h7,h10,h11,h13,A,B,C,E,F,J]
     cases h
     trivial
   ·try simp only[h5,h6,h7,h10,A,B,C,E,F,J]
    cases h
    trivial
  ·try simp only[hσ,h5,C6j,D1m,A,B,C,E,F,J]
   cases h
   trivial
theorem F4n:A5 X 26=H (cc636.strip,[6],48):=by kernel_rfl
theorem C4y(a0:X6)(a1:N X8)(a2:N X0)(r:Q)(h:A6e a0 a1 a2=H r):FC X 26 [.ag (X6.row a0),.sc (.sl (W X8.row a1)),.sc (.sl (W X0.row a2))] [.sc (.v (.bool r))]:=by
 unfold A6e at h
 refine C4 A7 F4n V ?_
 simp only[cc636,A,B,C,E,F,J]
 try simp only[A,B,C,E,F,J]
 refine B2 V V V ?_
 obtain⟨r1,h1,h⟩:=ob h
 try simp only[A,B,C,E,F,J]
 refine A2 (A5t _ _ _ h1) V V (uf V) ?_
 rcases ic h with ⟨h2,h⟩|⟨h2,h⟩
 ·rcases ic h with ⟨h3,h⟩|⟨h3,h⟩
  ·try simp only[h2,h3,A,B,C,E,F,J]
   cases h
   trivial
  ·try simp only[h2,h3,A,B,C,E,F,J]
   refine F61 _ _ _ _ _ _ h _ ?_
   try simp only[h2,h3,A,B,C,E,F,J,Y]
 ·try simp only[h2,A,B,C,E,F,J]
  cases h
  trivial
/- 3:laws_FnClosures -/
def C56:X2:= .seq (.reg [(L,.keep [3,4,5,6,7,8,69,70,71,79,80,81] [3] [2368,2816])]) (.seq (.reg [bn 82 .lss 81 80]) (.seq (.cond (S 82) .skip (.exit 2)) (.seq (.block 3 (.seq (.reg [ia 83 79 81 5,lw 84 83 5,(L,.alloc 13 [aI 0,aI 0,aB G,aI 0,aI 0]),so 13 84 5]) (.seq (.reg [lw 85 13 5,mv 86 5,ca 87 21 [S 85,S 86]]) (.cond (S 87) (.seq (.reg [(L,.mv 2 (KB G))]) .ret) .skip)))) (.reg [(L,.bin 88 .add (S 81) (K 1)),mv 81 88]))))
def D1i:X2:=(.reg [(L,.bin 89 .add (S 71) (K 1)),mv 71 89])
def B7f:X2:= .seq (.reg [(L,.keep [3,4,5,6,7,8,69,70,71] [3] [2368,2816])]) (.seq (.reg [bn 72 .lss 71 70]) (.seq (.cond (S 72) .skip (.exit 0)) (.seq (.block 1 (.seq (.reg [ia 73 69 71 4,lw 74 73 4,(L,.alloc 11 [aI 0,aI 0,aI 0,.nil]),so 11 74 4]) (.seq (.seq (.reg [lw 75 11 4,mv 76 5,ca 77 20 [S 75,S 76]]) (.cond (S 77) (.seq (.reg [(L,.mv 2 (KB G))]) .ret) .skip)) (.seq (.reg [fa 78 11 3,ld 79 78,ln 80 79,(L,.mv 81 (K 0))]) (.block 2 (.loop C56)))))) D1i)))
def D4l:X2:= .seq (.reg [(L,.keep [3,4,5,6,7,8,14,16,91,92,93] [3,16] [2368,2816,5760])]) (.seq (.drw [o0 (lw 106 3 12),o0 (lw 107 16 5),o0 (mv 108 5),o0 (ca 109 23 [S 106,S 107,S 108]),(H [113],ln 110 109),(H [109],lw 111 3 12),(H [109],lw 112 16 5),o0 (ca 113 24 [S 111,S 112]),o0 (ln 114 113),o0 (bn 115 .gtr 110 114)]) (.cond (S 115) (.seq (.reg [(L,.mv 2 (KB G))]) .ret) .skip))
def D3t:X2:=(.reg [(L,.bin 116 .add (S 93) (K 1)),mv 93 116])
def B7l:X2:= .seq (.reg [(L,.keep [3,4,5,6,7,8,14,91,92,93] [3] [2368,2816,5760])]) (.seq (.reg [bn 94 .lss 93 92]) (.seq (.cond (S 94) .skip (.exit 4)) (.seq (.block 5 (.seq (.reg [mv 95 93,ia 96 91 93 5,lw 97 96 5,(L,.alloc 16 [aI 0,aI 0,aI 0,aI 0,aI 0]),mv 15 95,so 16 97 5]) (.seq (.seq (.reg [mv 98 8,mv 99 15,ca 100 22 [S 98,S 99],nt 101 100]) (.cond (S 101) (.reg [mv 102 14,lw 103 16 5,(L,.bslice 104 5 [.int .i64 0,.int .i64 0,.int .i64 0,.int .i64 0,.int .i64 0] 1 [(0,(S 103))]),(L,.app 105 5 40 (S 102) (S 104)),mv 14 105]) .skip)) D4l))) D3t)))
def C0x:X2:=(.seq (.reg [lw 118 3 12,mv 119 14,mv 120 5,(L,.frz 5760),ca 121 16 [S 118,S 119,S 120],mv 117 121,xt 122 117 0,xt 123 117 1,mv 17 122,mv 18 123]) (.seq (.reg [lw 125 3 12,mv 126 4,ca 127 16 [S 125,S 126,KN],mv 124 127,xt 128 124 0,xt 129 124 1,mv 19 128,mv 20 129]) (.seq (.reg [mv 130 18,mv 131 130,(H (131,T),.mv 132 (S 20)),(H (131,T),.load 133 (S 3) T 12),(H (131,T),.mv 134 (S 4)),(H (131,T),.call 135 25 [(S 133),(S 134)]),(H (131,T),.beq 136 G (S 132) (S 135)),pa 137 131 136,mv 138 137,(H (138,T),.mv 139 (S 7)),(H (138,T),.un 140 .not (S 139)),(H (138,T),.mv 141 (S 140)),(H (141,G),.load 142 (S 3) T 12),(H (141,G),.mv 143 (S 4)),(H (141,G),.mv 144 (S 6)),(H (141,G),.call 145 26 [(S 142),(S 143),(S 144)]),(H (138,T),.pick 146 (S 141) (KB T) (S 145)),pa 147 138 146,mv 2 147]) .ret)))
def C0b:X2:=(.seq (.reg [(L,.bslice 90 5 [.int .i64 0,.int .i64 0,.int .i64 0,.int .i64 0,.int .i64 0] 0 []),mv 14 90]) (.seq (.seq (.reg [mv 91 4,ln 92 91,(L,.mv 93 (K 0))]) (.block 4 (.loop B7l))) C0x))
def cc647:X2:=(.seq (.reg [(L,.mv 2 (KB G))]) (.seq (.seq (.reg [mv 21 0,ln 22 21,(L,.bin 23 .gtr (S 22) (K 1048576))]) (.cond (S 23) (.seq (.reg [(L,.mv 2 (KB T))]) .ret) .skip)) (.seq (.reg [mv 25 0,ca 26 14 [S 25],mv 24 26,xt 27 24 0,xt 28 24 1,(L,.alloc 3 [aI 0,.nil,.nil,.nil,.nil,.nil,aI 0,aB G,aI 0,aI 0,aI 0,.nil]),so 3 27 12,mv 4 28]) (.seq (.reg [mv 29 0,fa 30 3 3,lw 31 30 2,ca 32 15 [S 29,K 90,S 31],mv 5 32]) (.seq (.reg [lw 34 3 12,mv 35 4,mv 36 5,(L,.frz 1676),ca 37 16 [S 34,S 35,S 36],mv 33 37,xt 38 33 0,xt 39 33 1,mv 6 38,mv 7 39]) (.seq (.reg [lw 41 3 12,mv 42 4,mv 43 5,ca 44 17 [S 41,S 42,S 43],mv 40 44,xt 45 40 0,xt 46 40 1,mv 8 45,mv 9 46]) (.seq (.seq (.reg [lw 47 3 12,mv 48 4,ca 49 18 [S 47,S 48],nt 50 49,mv 51 50,(H (51,G),.faddr 52 (S 3) 3),(H (51,G),.load 53 (S 52) T 2),(H (51,G),.mv 54 (S 5)),(H (51,G),.call 55 19 [(S 53),(S 54)]),(H (51,G),.un 56 .not (S 55)),po 57 51 56,mv 58 57,(H (58,G),.mv 59 (S 9)),(H (58,G),.un 60 .not (S 59)),po 61 58 60,mv 62 61,(H (62,G),.mv 63 (S 7)),(H (62,G),.mv 64 (S 8)),(H (62,G),.len 65 (S 64)),(H (62,G),.bin 66 .eql (S 65) (K 0)),(H (62,G),.beq 67 T (S 63) (S 66)),po 68 62 67]) (.cond (S 68) (.seq (.reg [(L,.mv 2 (KB G))]) .ret) .skip)) (.seq (.seq (.reg [mv 69 6,ln 70 69,(L,.mv 71 (K 0))]) (.block 0 (.loop B7f))) C0b))))))))
theorem F7h(r2:X6 × (N X8))(r3:(N Xa))(r4:(N X0) × Q)(v13:P)(x15:X0)(r5:(N P) × Q)(A1u:P→O Q)(B4f:∀(v13:P) zr,A1u v13=H zr→∀σ:St,σ.kept [3,4,5,6,7,8,69,70,71] [3] [2368,2816]=⟨[(3,vc (.pb 3 0)),(4,vc (aL (W X8.row r2.2))),(5,vc (aL (W zF r3))),(6,vc (.own 2368)),(7,vc (aB r4.2)),(8,vc (.own 2816)),(69,vc (.own 2368)),(70,vc (aI (r4.1.length:P))),(71,vc (aI v13))],[(3,(dm r2.1.row))],[(2368,4,W X0.row r4.1),(2816,1,W rI r5.1)]⟩→go X (.code (.loop B7f):: [.blk 0,.code C0b]) (Ret [2] [.sc (.v (.bool zr))]) .normal (H σ)):∀(n:U) (v18:P) (r:Q),T3 r2 r3 r4 v13 x15 r5 A1u n v18=H r→∀σ:St,σ.kept [3,4,5,6,7,8,69,70,71,79,80,81] [3] [2368,2816]=⟨[(3,vc (.pb 3 0)),(4,vc (aL (W X8.row r2.2))),(5,vc (aL (W zF r3))),(6,vc (.own 2368)),(7,vc (aB r4.2)),(8,vc (.own 2816)),(69,vc (.own 2368)),(70,vc (aI (r4.1.length:P))),(71,vc (aI v13)),(79,vc (aL (W X4.row x15.Passages))),(80,vc (aI (x15.Passages.length:P))),(81,vc (aI v18))],[(3,(dm r2.1.row))],[(2368,4,W X0.row r4.1),(2816,1,W rI r5.1)]⟩→go X (.code (.loop C56):: [.blk 2,.blk 1,.code D1i,.code (.loop B7f),.blk 0,.code C0b]) (Ret [2] [.sc (.v (.bool r))]) .normal (H σ):=by
 intro n
 induction n with
 | zero=>intro _ r h; cases h
 | succ n ih=>
  intro v18 r h σ hσ
  rw[T3] at h
  refine B0 ?_
  rcases ic h with ⟨h19,h⟩|⟨h19,h⟩
  ·obtain⟨x20,h20,h⟩:=ob h
   try simp only[hσ,h19,h20,C56,A,B,C,E,F,J]
   refine D7 V V ?_
   obtain⟨r21,h21,h⟩:=ob h
   try simp only[h19,h20,A,B,C,E,F,J]
   refine A2 (A9w _ _ _ h21) V V (uf V) ?_
   rcases ic h with ⟨h22,h⟩|⟨h22,h⟩
   ·try simp only[h19,h20,h22,A,B,C,E,F,J]
    cases h
    trivial
   ·try simp only[h19,h20,h22,A,B,C,E,F,J]
    refine ih _ _ h _ ?_
    try simp only[h19,h20,h22,A,B,C,E,F,J,Y]
  ·try simp only[hσ,h19,C56,D1i,A,B,C,E,F,J]
   refine B4f _ _ h _ ?_
   try simp only[h19,A,B,C,E,F,J,Y]
theorem E2s(r2:X6 × (N X8))(r3:(N Xa))(r4:(N X0) × Q)(v23:P)(x26:X8)(r5:(N P) × Q)(A39:P→(N X8)→O Q)(B4y:∀(v23:P) (v24:N X8) zr,A39 v23 v24=H zr→∀σ:St,σ.kept [3,4,5,6,7,8,14,91,92,93] [3] [2368,2816,5760]=⟨[(3,vc (.pb 3 0)),(4,vc (aL (W X8.row r2.2))),(5,vc (aL (W zF r3))),(6,vc (.own 2368)),(7,vc (aB r4.2)),(8,vc (.own 2816)),(14,vc (.own 5760)),(91,vc (aL (W X8.row r2.2))),(92,vc (aI (r2.2.length:P))),(93,vc (aI v23))],[(3,(dm r2.1.row))],[(2368,4,W X0.row r4.1),(2816,1,W rI r5.1),(5760,5,W X8.row v24)]⟩→go X (.code (.loop B7l):: [.blk 4,.code C0x]) (Ret [2] [.sc (.v (.bool zr))]) .normal (H σ))(v30:N X8)(r:Q)(h:Y9 r2 r3 r4 v23 x26 r5 A39 v30=H r)(σ:St)(hσ:σ.kept [3,4,5,6,7,8,14,16,91,92,93] [3,16] [2368,2816,5760]=⟨[(3,vc (.pb 3 0)),(4,vc (aL (W X8.row r2.2))),(5,vc (aL (W zF r3))),(6,vc (.own 2368)),(7,vc (aB r4.2)),(8,vc (.own 2816)),(14,vc (.own 5760)),(16,vc (.pb 16 0)),(91,vc (aL (W X8.row r2.2))),(92,vc (aI (r2.2.length:P))),(93,vc (aI v23))],[(3,(dm r2.1.row)),(16,(dm x26.row))],[(2368,4,W X0.row r4.1),(2816,1,W rI r5.1),(5760,5,W X8.row v30)]⟩):go X (.code D4l:: [.blk 5,.code D3t,.code (.loop B7l),.blk 4,.code C0x]) (Ret [2] [.sc (.v (.bool r))]) .normal (H σ):=by
 unfold Y9 at h
 try simp only[hσ,D4l,A,B,C,E,F,J]
 refine C3 V ?_
 obtain⟨r31,h31,h⟩:=ob h
 try simp only[A,B,C,E,F,J]
 refine F9 (A92 _ _ _ _ h31) V V (uf V) ?_
 obtain⟨r32,h32,h⟩:=ob h
 try simp only[A,B,C,E,F,J]
 refine F9 (A77 _ _ _ h32) V V (uf V) ?_
 rcases ic h with ⟨h33,h⟩|⟨h33,h⟩
 ·try simp only[h33,A,B,C,E,F,J]
  cases h
  trivial
 ·try simp only[h33,D3t,A,B,C,E,F,J]
  refine B4y _ _ _ h _ ?_
  try simp only[h33,A,B,C,E,F,J,Y]
theorem F3t(r2:X6 × (N X8))(r3:(N Xa))(r4:(N X0) × Q)(r5:(N P) × Q):∀(n:U) (v23:P) (v24:N X8) (r:Q),H4 r2 r3 r4 r5 n v23 v24=H r→∀σ:St,σ.kept [3,4,5,6,7,8,14,91,92,93] [3] [2368,2816,5760]=⟨[(3,vc (.pb 3 0)),(4,vc (aL (W X8.row r2.2))),(5,vc (aL (W zF r3))),(6,vc (.own 2368)),(7,vc (aB r4.2)),(8,vc (.own 2816)),(14,vc (.own 5760)),(91,vc (aL (W X8.row r2.2))),(92,vc (aI (r2.2.length:P))),(93,vc (aI v23))],[(3,(dm r2.1.row))],[(2368,4,W X0.row r4.1),(2816,1,W rI r5.1),(5760,5,W X8.row v24)]⟩→go X (.code (.loop B7l):: [.blk 4,.code C0x]) (Ret [2] [.sc (.v (.bool r))]) .normal (H σ):=by
 intro n
 induction n with
 | zero=>intro _ _ r h; cases h
 | succ n ih=>
  intro v23 v24 r h σ hσ
  rw[H4] at h
  refine B0 ?_
  rcases ic h with ⟨h25,h⟩|⟨h25,h⟩
  ·obtain⟨x26,h26,h⟩:=ob h
   try simp only[hσ,h25,h26,B7l,A,B,C,E,F,J]
   refine D7 V V ?_
   obtain⟨r27,h27,h⟩:=ob h
   try simp only[h25,h26,A,B,C,E,F,J]
   refine R4 (D1y _ _ _ h27) V (R5 V) V (uf V) ?_
   rcases ic h with ⟨h28,h⟩|⟨h28,h⟩
   ·try simp only[h25,h26,h28,A,B,C,E,F,J]
    refine E2s _ _ _ _ _ _ (H4 r2 r3 r4 r5 n) ih _ _ h _ ?_
    try simp only[h25,h26,h28,A,B,C,E,F,J,Y]
   ·try simp only[h25,h26,h28,A,B,C,E,F,J]
    refine C7 (es:=W X8.row ([x26]:N X8)) V V ?_
    obtain⟨h29,h⟩:=D3 h
    try simp only[h25,h26,h28,h29,A,B,C,E,F,J]
    refine E2s _ _ _ _ _ _ (H4 r2 r3 r4 r5 n) ih _ _ h _ ?_
    try simp only[h25,h26,h28,h29,A,B,C,E,F,J,Y]
  ·try simp only[hσ,h25,B7l,C0x,A,B,C,E,F,J]
   refine O5 V ?_
   obtain⟨r34,h34,h⟩:=ob h
   try simp only[h25,A,B,C,E,F,J]
   refine A2 (A5g _ _ _ _ h34) V V (uf V) ?_
   obtain⟨r35,h35,h⟩:=ob h
   try simp only[h25,A,B,C,E,F,J]
   refine A2 (A5g _ _ _ _ h35) V V (uf V) ?_
   rcases ic h with ⟨h36,h⟩|⟨h36,h⟩
   ·obtain⟨r37,h37,h⟩:=ob h
    try simp only[h25,h36,A,B,C,E,F,J]
    refine A2 (C13 _ _ _ h37) V V (uf V) ?_
    rcases ic h with ⟨h38,h⟩|⟨h38,h⟩
    ·rcases ic h with ⟨h39,h⟩|⟨h39,h⟩
     ·obtain⟨r40,h40,h⟩:=ob h
      try simp only[h25,h36,h38,h39,A,B,C,E,F,J]
      refine R4 (C4y _ _ _ _ h40) V (R5 V) V (uf V) ?_
      try simp only[h25,h36,h38,h39,A,B,C,E,F,J]
      cases h
      trivial
     ·try simp only[h25,h36,h38,h39,A,B,C,E,F,J]
      cases h
      trivial
    ·try simp only[h25,h36,h38,A,B,C,E,F,J]
     cases h
     trivial
   ·try simp only[h25,h36,A,B,C,E,F,J]
    cases h
    trivial
theorem F9c(r2:X6 × (N X8))(r3:(N Xa))(r4:(N X0) × Q)(r5:(N P) × Q):∀(n:U) (v13:P) (r:Q),M5 r2 r3 r4 r5 n v13=H r→∀σ:St,σ.kept [3,4,5,6,7,8,69,70,71] [3] [2368,2816]=⟨[(3,vc (.pb 3 0)),(4,vc (aL (W X8.row r2.2))),(5,vc (aL (W zF r3))),(6,vc (.own 2368)),(7,vc (aB r4.2)),(8,vc (.own 2816)),(69,vc (.own 2368)),(70,vc (aI (r4.1.length:P))),(71,vc (aI v13))],[(3,(dm r2.1.row))],[(2368,4,W X0.row r4.1),(2816,1,W rI r5.1)]⟩→go X (.code (.loop B7f):: [.blk 0,.code C0b]) (Ret [2] [.sc (.v (.bool r))]) .normal (H σ):=by
 intro n
 induction n with
 | zero=>intro _ r h; cases h
 | succ n ih=>
  intro v13 r h σ hσ
  rw[M5] at h
  refine B0 ?_
  rcases ic h with ⟨h14,h⟩|⟨h14,h⟩
  ·obtain⟨x15,h15,h⟩:=ob h
   have h15n:=N4 h15
   try simp only[hσ,h14,h15,h15n,B7f,A,B,C,E,F,J]
   refine D7 V V ?_
   obtain⟨r16,h16,h⟩:=ob h
   try simp only[h14,h15,h15n,A,B,C,E,F,J]
   refine A2 (B3m _ _ _ h16) V V (uf V) ?_
   rcases ic h with ⟨h17,h⟩|⟨h17,h⟩
   ·try simp only[h14,h15,h15n,h17,A,B,C,E,F,J]
    cases h
    trivial
   ·try simp only[h14,h15,h15n,h17,A,B,C,E,F,J]
    refine F7h _ _ _ _ _ _ (M5 r2 r3 r4 r5 n) ih _ _ _ h _ ?_
    try simp only[h14,h15,h15n,h17,A,B,C,E,F,J,Y]
  ·try simp only[hσ,h14,B7f,C0b,A,B,C,E,F,J]
   refine C7 (es:=W X8.row ([]:N X8)) V V ?_
   try simp only[h14,A,B,C,E,F,J]
   refine F3t _ _ _ _ _ _ _ _ h _ ?_
   try simp only[h14,A,B,C,E,F,J,Y]
theorem F32:A5 X 3=H (cc647.strip,[2],148):=by kernel_rfl
theorem w_laws_FnClosures(a0:N P)(r:Q)(h:A5k a0=H r):FC X 3 [.sc (.sl (W r8 a0))] [.sc (.v (.bool r))]:=by
 unfold A5k at h
 refine C4 A7 F32 V ?_
 simp only[cc647,A,B,C,E,F,J]
 rcases ic h with ⟨h1,h⟩|⟨h1,h⟩
 ·try simp only[h1,A,B,C,E,F,J]
  cases h
  trivial
 ·obtain⟨r2,h2,h⟩:=ob h
  try simp only[h1,A,B,C,E,F,J]
  refine A2 (B9m _ _ h2) V V (uf V) ?_
  try simp only[h1,A,B,C,E,F,J]
  refine D7 V V ?_
  obtain⟨r3,h3,h⟩:=ob h
  try simp only[h1,A,B,C,E,F,J]
  refine A2 (B5m _ _ _ _ h3) V V (uf V) ?_
  try simp only[h1,A,B,C,E,F,J]
  refine O5 V ?_
  obtain⟨r4,h4,h⟩:=ob h
  try simp only[h1,A,B,C,E,F,J]
  refine A2 (A5g _ _ _ _ h4) V V (uf V) ?_
  obtain⟨r5,h5,h⟩:=ob h
  try simp only[h1,A,B,C,E,F,J]
  refine A2 (B36 _ _ _ _ h5) V V (uf V) ?_
  obtain⟨r6,h6,h⟩:=ob h
  try simp only[h1,A,B,C,E,F,J]
  refine A2 (A5t _ _ _ h6) V V (uf V) ?_
  rcases ic h with ⟨h7,h⟩|⟨h7,h⟩
  ·obtain⟨r9,h9,h⟩:=ob h
   try simp only[h1,h7,A,B,C,E,F,J]
   refine A2 (A5a _ _ _ h9) V V (uf V) ?_
   rcases ic h with ⟨h10,h⟩|⟨h10,h⟩
   ·rcases ic h with ⟨h11,h⟩|⟨h11,h⟩
    ·rcases ic h with ⟨h12,h⟩|⟨h12,h⟩
     ·try simp only[h1,h7,h10,h11,h12,A,B,C,E,F,J]
      refine F9c _ _ _ _ _ _ _ h _ ?_
      try simp only[h1,h7,h10,h11,h12,A,B,C,E,F,J,Y]
     ·try simp only[h1,h7,h10,h11,h12,A,B,C,E,F,J]
      cases h
      trivial
    ·try simp only[h1,h7,h10,h11,A,B,C,E,F,J]
     cases h
     trivial
   ·try simp only[h1,h7,h10,A,B,C,E,F,J]
    cases h
    trivial
  ·try simp only[h1,h7,A,B,C,E,F,J]
   cases h
   trivial
end Go.Vi
