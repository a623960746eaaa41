/-
Walks. No condition.
-/
import Derived.Test.YtmgfndipofbbaaaGreatANf
import Derived.Test.YtmgfndipofbbaaaGreatChecked
import Derived.Test.YtmgfndipofbbaaaGreatAFc
import Derived.KernelRfl
import Derived.Test.YtmgfndipofbbaaaGreatAWAdversec
namespace Go.Vi
open Go.Proofs
set_option linter.all false
set_option maxRecDepth 4000
set_option maxHeartbeats 2000000
open Nat renaming reduceBEq → A, reduceMul → B, reduceAdd → C, reduceDiv → E, le_of_ble_eq_true → uf
open Int renaming reduceBEq → F
attribute [local irreducible] go AWP
open Tryz renaming prog → N
open List renaming map → O
open Bool renaming true → T, false → G
open Option renaming some → H, none → L
/- 38:impl_SaferPicks -/
def C3b:ACode:= .seq (.reg [(L,.keep [0,1,14] [] [])]) (.seq (.reg [(L,.bin 15 .lss (S 14) (K 48))]) (.seq (.cond (S 15) .skip (.exit 0)) (.seq (.block 1 (.seq (.reg [mv 16 14,mv 5 16]) (.seq (.reg [mv 17 0,mv 18 5,ca 19 115 [S 17,S 18],mv 20 1,mv 21 5,ca 22 115 [S 20,S 21],bn 23 .lss 19 22]) (.cond (S 23) (.seq (.reg [(L,.mv 4 (KB G))]) .ret) .skip)))) (.reg [(L,.bin 24 .add (S 14) (K 1)),mv 14 24]))))
def C9q:ACode:=(.seq (.reg [(L,.mv 4 (KB T))]) .ret)
def cc573:ACode:=(.seq (.reg [(L,.mv 4 (KB G))]) (.seq (.seq (.reg [mv 6 0,ca 7 37 [S 6],nt 8 7,mv 9 8,(H (9,G),.mv 10 (S 1)),(H (9,G),.call 11 37 [(S 10)]),(H (9,G),.un 12 .not (S 11)),po 13 9 12]) (.cond (S 13) (.seq (.reg [(L,.mv 4 (KB G))]) .ret) .skip)) (.seq (.seq (.reg [(L,.mv 14 (K 0))]) (.block 0 (.loop C3b))) C9q)))
theorem F1b(a0 a1:List Int):∀(n:Nat) (v5:Int) (r:Bool),Q8 a0 a1 n v5=H r→∀σ:St,σ.kept [0,1,14] [] []=⟨[(0,vc (aL (O rI a0))),(1,vc (aL (O rI a1))),(14,vc (aI v5))],[],[]⟩→go N (.code (.loop C3b):: [.blk 0,.code C9q]) (Ret [4] [.sc (.v (.bool r))]) .normal (H σ):=by
 intro n
 induction n with
 | zero=>intro _ r h; cases h
 | succ n ih=>
  intro v5 r h σ hσ
  rw[Q8] at h
  refine B8 ?_
  rcases ic h with ⟨h6,h⟩|⟨h6,h⟩
  ·obtain⟨r7,h7,h⟩:=ob h
   try simp only[hσ,h6,C3b,A,B,C,E,F,J]
   refine A4 (A9a _ _ _ h7) rfl rfl (uf rfl) ?_
   obtain⟨r9,h9,h⟩:=ob h
   try simp only[h6,A,B,C,E,F,J]
   refine A4 (A9a _ _ _ h9) rfl rfl (uf rfl) ?_
   rcases ic h with ⟨h10,h⟩|⟨h10,h⟩
   ·try simp only[h6,h10,A,B,C,E,F,J]
    cases h
    trivial
   ·try simp only[h6,h10,A,B,C,E,F,J]
    refine ih _ _ h _ ?_
    try simp only[h6,h10,A,B,C,E,F,J,List.map_nil]
  ·try simp only[hσ,h6,C3b,C9q,A,B,C,E,F,J]
   cases h
   trivial
theorem F17:B0 N 38=H (cc573.strip,[4],25):=by kernel_rfl
theorem B57(a0 a1:List Int)(r:Bool)(h:A11 a0 a1=H r):FC N 38 [.sc (.sl (O rI a0)),.sc (.sl (O rI a1))] [.sc (.v (.bool r))]:=by
 unfold A11 at h
 refine D3 B4 F17 rfl ?_
 simp only[cc573,A,B,C,E,F,J]
 obtain⟨r1,h1,h⟩:=ob h
 try simp only[A,B,C,E,F,J]
 refine A4 (A4f _ _ h1) rfl rfl (uf rfl) ?_
 rcases ic h with ⟨h2,h⟩|⟨h2,h⟩
 ·obtain⟨r3,h3,h⟩:=ob h
  try simp only[h2,A,B,C,E,F,J]
  refine A4 (A4f _ _ h3) rfl rfl (uf rfl) ?_
  rcases ic h with ⟨h4,h⟩|⟨h4,h⟩
  ·try simp only[h2,h4,A,B,C,E,F,J]
   refine F1b _ _ _ _ _ h _ ?_
   try simp only[h2,h4,A,B,C,E,F,J,List.map_nil]
  ·try simp only[h2,h4,A,B,C,E,F,J]
   cases h
   trivial
 ·try simp only[h2,A,B,C,E,F,J]
  cases h
  trivial
/- 39:impl_LevelOn -/
def cc576:ACode:=(.seq (.reg [bo 3 0,(L,.mv 6 (K 0))]) (.seq (.seq (.reg [lw 7 3 3,ca 8 116 [S 7],nt 9 8,mv 10 9,(H (10,G),.mv 11 (S 1)),(H (10,G),.call 12 37 [(S 11)]),(H (10,G),.un 13 .not (S 12)),po 14 10 13,mv 15 14,(H (15,G),.mv 16 (S 2)),(H (15,G),.call 17 117 [(S 16)]),(H (15,G),.un 18 .not (S 17)),po 19 15 18]) (.cond (S 19) (.seq (.reg [(L,.mv 6 (K 0))]) .ret) .skip)) (.seq (.reg [lw 20 3 3,mv 21 1,mv 22 2,ca 23 118 [S 20,S 21,S 22],mv 6 23]) .ret)))
theorem F0c:B0 N 39=H (cc576.strip,[6],24):=by kernel_rfl
theorem B9z(a0:XForecast)(a1:List Int)(a2 r:Int)(h:A4e a0 a1 a2=H r):FC N 39 [.ag (XForecast.row a0),.sc (.sl (O rI a1)),.sc (.int .i64 a2)] [.sc (.v (.int .i64 r))]:=by
 unfold A4e at h
 refine D3 B4 F0c rfl ?_
 simp only[cc576,A,B,C,E,F,J]
 try simp only[A,B,C,E,F,J]
 refine B7 rfl rfl rfl ?_
 obtain⟨r1,h1,h⟩:=ob h
 try simp only[A,B,C,E,F,J]
 refine A4 (A0n _ _ h1) rfl rfl (uf rfl) ?_
 rcases ic h with ⟨h2,h⟩|⟨h2,h⟩
 ·obtain⟨r3,h3,h⟩:=ob h
  try simp only[h2,A,B,C,E,F,J]
  refine A4 (A4f _ _ h3) rfl rfl (uf rfl) ?_
  rcases ic h with ⟨h4,h⟩|⟨h4,h⟩
  ·obtain⟨r5,h5,h⟩:=ob h
   try simp only[h2,h4,A,B,C,E,F,J]
   refine A4 (M9 _ _ h5) rfl rfl (uf rfl) ?_
   rcases ic h with ⟨h6,h⟩|⟨h6,h⟩
   ·obtain⟨r7,h7,h⟩:=ob h
    try simp only[h2,h4,h6,A,B,C,E,F,J]
    refine A4 (A54 _ _ _ _ h7) rfl rfl (uf rfl) ?_
    try simp only[h2,h4,h6,A,B,C,E,F,J]
    cases h
    trivial
   ·try simp only[h2,h4,h6,A,B,C,E,F,J]
    cases h
    trivial
  ·try simp only[h2,h4,A,B,C,E,F,J]
   cases h
   trivial
 ·try simp only[h2,A,B,C,E,F,J]
  cases h
  trivial
/- 40:impl_LowAt -/
def cc578:ACode:=(.seq (.reg [bo 2 0,(L,.mv 4 (K 0))]) (.seq (.seq (.reg [lw 5 2 3,ca 6 116 [S 5],nt 7 6,mv 8 7,(H (8,G),.mv 9 (S 1)),(H (8,G),.call 10 117 [(S 9)]),(H (8,G),.un 11 .not (S 10)),po 12 8 11]) (.cond (S 12) (.seq (.reg [(L,.mv 4 (K 0))]) .ret) .skip)) (.seq (.reg [lw 13 2 3,mv 14 1,ca 15 119 [S 13,S 14],mv 4 15]) .ret)))
theorem E99:B0 N 40=H (cc578.strip,[4],16):=by kernel_rfl
theorem C4z(a0:XForecast)(a1 r:Int)(h:A5u a0 a1=H r):FC N 40 [.ag (XForecast.row a0),.sc (.int .i64 a1)] [.sc (.v (.int .i64 r))]:=by
 unfold A5u at h
 refine D3 B4 E99 rfl ?_
 simp only[cc578,A,B,C,E,F,J]
 try simp only[A,B,C,E,F,J]
 refine B7 rfl rfl rfl ?_
 obtain⟨r1,h1,h⟩:=ob h
 try simp only[A,B,C,E,F,J]
 refine A4 (A0n _ _ h1) rfl rfl (uf rfl) ?_
 rcases ic h with ⟨h2,h⟩|⟨h2,h⟩
 ·obtain⟨r3,h3,h⟩:=ob h
  try simp only[h2,A,B,C,E,F,J]
  refine A4 (M9 _ _ h3) rfl rfl (uf rfl) ?_
  rcases ic h with ⟨h4,h⟩|⟨h4,h⟩
  ·obtain⟨r5,h5,h⟩:=ob h
   try simp only[h2,h4,A,B,C,E,F,J]
   refine A4 (A5g _ _ _ h5) rfl rfl (uf rfl) ?_
   try simp only[h2,h4,A,B,C,E,F,J]
   cases h
   trivial
  ·try simp only[h2,h4,A,B,C,E,F,J]
   cases h
   trivial
 ·try simp only[h2,A,B,C,E,F,J]
  cases h
  trivial
/- 5:laws_FnAdverse -/
def cc580:ACode:=(.seq (.reg [(L,.mv 2 (KB G))]) (.seq (.seq (.reg [mv 17 0,ln 18 17,(L,.bin 19 .gtr (S 18) (K 1048576))]) (.cond (S 19) (.seq (.reg [(L,.mv 2 (KB T))]) .ret) .skip)) (.seq (.reg [mv 21 0,ca 22 14 [S 21],mv 20 22,xt 23 20 0,xt 24 20 1,(L,.alloc 3 [aI 0,.nil,.nil,.nil,.nil,.nil,aI 0,aB G,aI 0,aI 0,aI 0,.nil]),so 3 23 12,mv 4 24]) (.seq (.reg [lw 26 3 12,mv 27 4,ca 28 27 [S 26,S 27],mv 25 28,xt 29 25 0,xt 30 25 1,xt 31 25 2,mv 5 29,mv 6 30,mv 7 31]) (.seq (.seq (.reg [lw 32 3 12,mv 33 4,ca 34 18 [S 32,S 33],nt 35 34]) (.cond (S 35) (.seq (.reg [(L,.mv 2 (KB G))]) .ret) .skip)) (.seq (.seq (.reg [mv 36 7,nt 37 36]) (.cond (S 37) (.seq (.reg [lw 38 3 12,mv 39 4,ca 40 25 [S 38,S 39],nt 41 40,mv 2 41]) .ret) .skip)) (.seq (.reg [lw 43 3 12,mv 44 4,mv 45 5,(L,.frz 1420),(L,.frz 1792),ca 46 29 [S 43,S 44,S 45],mv 42 46,xt 47 42 0,xt 48 42 1,mv 8 47,mv 9 48]) (.seq (.reg [mv 49 0,ca 50 33 [S 49,K 90],mv 10 50]) (.seq (.reg [lw 52 3 12,mv 53 8,mv 54 10,ca 55 34 [S 52,S 53,S 54],mv 51 55,xt 56 51 0,xt 57 51 1,mv 11 56,mv 12 57]) (.seq (.reg [lw 59 3 12,mv 60 8,(L,.bslice 61 1 [.int .i64 0] 1 [(0,(K 0))]),ca 62 34 [S 59,S 60,S 61],mv 58 62,xt 63 58 0,xt 64 58 1,mv 13 63,mv 14 64]) (.seq (.reg [lw 66 3 12,mv 67 8,mv 68 10,ca 69 35 [S 66,S 67,S 68],mv 65 69,xt 70 65 0,xt 71 65 1,mv 15 70,mv 16 71]) (.seq (.drw [o0 (mv 72 12),o0 (mv 73 72),o0 (H (73,T),.mv 74 (S 14)),o0 (pa 75 73 74),o0 (mv 76 75),o0 (H (76,T),.mv 77 (S 11)),o0 (H (76,T),.mv 78 (S 13)),o0 (H (76,T),.bin 79 .geq (S 77) (S 78)),o0 (pa 80 76 79),o0 (mv 81 80),o0 (H (81,T),.mv 82 (S 13)),o0 (H (81,T),.bin 83 .geq (S 82) (K 0)),o0 (pa 84 81 83),o0 (mv 85 84),o0 (H (85,T),.load 86 (S 3) T 12),o0 (H (85,T),.mv 87 (S 8)),o0 (H (85,T),.mv 88 (S 10)),o0 (H (85,T),.call 89 36 [(S 86),(S 87),(S 88)]),o0 (pa 90 85 89),o0 (mv 91 90),(H [94],(H (91,T),.load 92 (S 3) T 12)),(H [94],(H (91,T),.mv 93 (S 8))),o0 (H (91,T),.bslice 94 1 [.int .i64 0] 1 [(0,(K 0))]),o0 (H (91,T),.call 95 36 [(S 92),(S 93),(S 94)]),o0 (pa 96 91 95),o0 (mv 97 96),o0 (H (97,T),.mv 98 (S 15)),o0 (H (97,T),.bin 99 .eql (S 98) (K (-1))),o0 (pa 100 97 99),o0 (mv 101 100),o0 (H (101,T),.mv 102 (S 16)),o0 (H (101,T),.bin 103 .eql (S 102) (K (-1))),o0 (pa 104 101 103),o0 (mv 105 104),o0 (H (105,T),.mv 106 (S 10)),o0 (H (105,T),.call 107 37 [(S 106)]),o0 (pa 108 105 107),o0 (mv 109 108),(H [111],(H (109,T),.mv 110 (S 10))),o0 (H (109,T),.bslice 111 1 [.int .i64 0] 1 [(0,(K 0))]),o0 (H (109,T),.call 112 38 [(S 110),(S 111)]),o0 (pa 113 109 112),o0 (mv 114 113),o0 (H (114,T),.faddr 115 (S 3) 0),o0 (H (114,T),.load 116 (S 115) T 3),o0 (H (114,T),.mv 117 (S 10)),o0 (H (114,T),.call 118 39 [(S 116),(S 117),(K 100)]),(H [118],(H (114,T),.faddr 119 (S 3) 0)),(H [118],(H (114,T),.load 120 (S 119) T 3)),o0 (H (114,T),.call 121 40 [(S 120),(K 100)]),o0 (H (114,T),.bin 122 .geq (S 118) (S 121)),o0 (pa 123 114 122),o0 (mv 2 123)]) .ret))))))))))))
theorem E8o:B0 N 5=H (cc580.strip,[2],124):=by kernel_rfl
theorem w_laws_FnAdverse(a0:List Int)(r:Bool)(h:A4l a0=H r):FC N 5 [.sc (.sl (O r8 a0))] [.sc (.v (.bool r))]:=by
 unfold A4l at h
 refine D3 B4 E8o rfl ?_
 simp only[cc580,A,B,C,E,F,J]
 rcases ic h with ⟨h1,h⟩|⟨h1,h⟩
 ·try simp only[h1,A,B,C,E,F,J]
  cases h
  trivial
 ·obtain⟨r2,h2,h⟩:=ob h
  try simp only[h1,A,B,C,E,F,J]
  refine A4 (B65 _ _ h2) rfl rfl (uf rfl) ?_
  try simp only[h1,A,B,C,E,F,J]
  refine E0 rfl rfl ?_
  obtain⟨r3,h3,h⟩:=ob h
  try simp only[h1,A,B,C,E,F,J]
  refine W4 (B08 _ _ _ h3) rfl (A82 rfl ⟨A8v,rfl,rfl,⟨⟩⟩) rfl (uf rfl) ?_
  obtain⟨r4,h4,h⟩:=ob h
  try simp only[h1,A,B,C,E,F,J]
  refine W4 (A71 _ _ _ h4) rfl (W7 rfl) rfl (uf rfl) ?_
  rcases ic h with ⟨h5,h⟩|⟨h5,h⟩
  ·rcases ic h with ⟨h6,h⟩|⟨h6,h⟩
   ·try simp only[h1,h5,h6,A,B,C,E,F,J]
    refine U4 rfl ?_
    try simp only[h1,h5,h6,A,B,C,E,F,J]
    refine U4 rfl ?_
    obtain⟨r9,h9,h⟩:=ob h
    try simp only[h1,h5,h6,A,B,C,E,F,J]
    refine A4 (C17 _ _ _ _ h9) rfl rfl (uf rfl) ?_
    obtain⟨r10,h10,h⟩:=ob h
    try simp only[h1,h5,h6,A,B,C,E,F,J]
    refine A4 (B6w _ _ _ h10) rfl rfl (uf rfl) ?_
    obtain⟨r11,h11,h⟩:=ob h
    try simp only[h1,h5,h6,A,B,C,E,F,J]
    refine W4 (A7e _ _ _ _ h11) rfl (W7 rfl) rfl (uf rfl) ?_
    try simp only[h1,h5,h6,A,B,C,E,F,J]
    refine D8 (es:=O rI ([(0:Int)]:List Int)) rfl rfl ?_
    obtain⟨r12,h12,h⟩:=ob h
    try simp only[h1,h5,h6,A,B,C,E,F,J]
    refine W4 (A7e _ _ _ _ h12) rfl (W7 rfl) rfl (uf rfl) ?_
    obtain⟨r13,h13,h⟩:=ob h
    try simp only[h1,h5,h6,A,B,C,E,F,J]
    refine W4 (B2g _ _ _ _ h13) rfl (W7 rfl) rfl (uf rfl) ?_
    try simp only[h1,h5,h6,A,B,C,E,F,J]
    refine C6 rfl ?_
    rcases ic h with ⟨h14,h⟩|⟨h14,h⟩
    ·rcases ic h with ⟨h15,h⟩|⟨h15,h⟩
     ·rcases ic h with ⟨h16,h⟩|⟨h16,h⟩
      ·rcases ic h with ⟨h17,h⟩|⟨h17,h⟩
       ·obtain⟨r18,h18,h⟩:=ob h
        try simp only[h1,h5,h6,h14,h15,h16,h17,A,B,C,E,F,J]
        refine A73 (B2i _ _ _ _ h18) (by first | rfl | kernel_rfl) (W7 rfl) rfl (uf rfl) ?_
        rcases ic h with ⟨h19,h⟩|⟨h19,h⟩
        ·try simp only[h1,h5,h6,h14,h15,h16,h17,h19,A,B,C,E,F,J]
         refine D8 (es:=O rI ([(0:Int)]:List Int)) rfl rfl ?_
         obtain⟨r20,h20,h⟩:=ob h
         try simp only[h1,h5,h6,h14,h15,h16,h17,h19,A,B,C,E,F,J]
         refine A73 (B2i _ _ _ _ h20) (by first | rfl | kernel_rfl) (W7 rfl) rfl (uf rfl) ?_
         rcases ic h with ⟨h21,h⟩|⟨h21,h⟩
         ·rcases ic h with ⟨h22,h⟩|⟨h22,h⟩
          ·rcases ic h with ⟨h23,h⟩|⟨h23,h⟩
           ·obtain⟨r24,h24,h⟩:=ob h
            try simp only[h1,h5,h6,h14,h15,h16,h17,h19,h21,h22,h23,A,B,C,E,F,J]
            refine E6 (A4f _ _ h24) rfl rfl (uf rfl) ?_
            rcases ic h with ⟨h25,h⟩|⟨h25,h⟩
            ·try simp only[h1,h5,h6,h14,h15,h16,h17,h19,h21,h22,h23,h25,A,B,C,E,F,J]
             refine D8 (es:=O rI ([(0:Int)]:List Int)) rfl rfl ?_
             obtain⟨r26,h26,h⟩:=ob h
             try simp only[h1,h5,h6,h14,h15,h16,h17,h19,h21,h22,h23,h25,A,B,C,E,F,J]
             refine A73 (B57 _ _ _ h26) (by first | rfl | kernel_rfl) (W7 rfl) rfl (uf rfl) ?_
             rcases ic h with ⟨h27,h⟩|⟨h27,h⟩
             ·obtain⟨r28,h28,h⟩:=ob h
              try simp only[h1,h5,h6,h14,h15,h16,h17,h19,h21,h22,h23,h25,h27,A,B,C,E,F,J]
              refine E6 (B9z _ _ _ _ h28) rfl rfl (uf rfl) ?_
              obtain⟨r29,h29,h⟩:=ob h
              try simp only[h1,h5,h6,h14,h15,h16,h17,h19,h21,h22,h23,h25,h27,A,B,C,E,F,J]
              refine E6 (C4z _ _ _ h29) rfl rfl (uf rfl) ?_
              try simp only[h1,h5,h6,h14,h15,h16,h17,h19,h21,h22,h23,h25,h27,A,B,C,E,F,J]
              cases h
              trivial
             ·try simp only[h1,h5,h6,h14,h15,h16,h17,h19,h21,h22,h23,h25,h27,A,B,C,E,F,J]
              cases h
              trivial
            ·try simp only[h1,h5,h6,h14,h15,h16,h17,h19,h21,h22,h23,h25,A,B,C,E,F,J]
             cases h
             trivial
           ·try simp only[h1,h5,h6,h14,h15,h16,h17,h19,h21,h22,h23,A,B,C,E,F,J]
            cases h
            trivial
          ·try simp only[h1,h5,h6,h14,h15,h16,h17,h19,h21,h22,A,B,C,E,F,J]
           cases h
           trivial
         ·try simp only[h1,h5,h6,h14,h15,h16,h17,h19,h21,A,B,C,E,F,J]
          cases h
          trivial
        ·try simp only[h1,h5,h6,h14,h15,h16,h17,h19,A,B,C,E,F,J]
         cases h
         trivial
       ·try simp only[h1,h5,h6,h14,h15,h16,h17,A,B,C,E,F,J]
        cases h
        trivial
      ·try simp only[h1,h5,h6,h14,h15,h16,A,B,C,E,F,J]
       cases h
       trivial
     ·try simp only[h1,h5,h6,h14,h15,A,B,C,E,F,J]
      cases h
      trivial
    ·try simp only[h1,h5,h6,h14,A,B,C,E,F,J]
     cases h
     trivial
   ·obtain⟨r7,h7,h⟩:=ob h
    try simp only[h1,h5,h6,A,B,C,E,F,J]
    refine W4 (B9q _ _ _ h7) rfl (W7 rfl) rfl (uf rfl) ?_
    try simp only[h1,h5,h6,A,B,C,E,F,J]
    cases h
    trivial
  ·try simp only[h1,h5,A,B,C,E,F,J]
   cases h
   trivial
end Go.Vi
