/-
Walks. No condition.
-/
import Derived.Test.YtjaofdfehibjhaaGreatDoorSNf
import Derived.Test.YtjaofdfehibjhaaGreatDoorChecked
import Derived.Test.YtjaofdfehibjhaaGreatDoorSSh
import Derived.KernelRfl
import Derived.Test.YtjaofdfehibjhaaGreatDoorSWStrategiesc
namespace Go.Vi
open Go.Proofs
set_option linter.all false
set_option maxRecDepth 4000
set_option maxHeartbeats 2000000
open Nat renaming reduceBEq → A, reduceMul → B, reduceAdd → C, reduceDiv → E, le_of_ble_eq_true → uf
open Int renaming reduceBEq → F
attribute [local irreducible] go AWP
open Tryz renaming prog → U
open List renaming map_nil → V, map → W
open Xi renaming row → X
open Bool renaming true → T, false → G
open Option renaming some → H, none → L
open _root_ renaming List → N, Int → O, UInt8 → P, rfl → Q
/- 15:impl_WorstCost -/
def C60:X2:= .seq (.reg [(L,.keep [3,5,7,8,9,22] [5] [])]) (.cond (S 22) (.reg [fa 23 5 2,ld 24 23,ca 25 39 [S 24],mv 3 25]) .skip)
def C49:X2:=(.reg [(L,.bin 26 .add (S 9) (K 1)),mv 9 26])
def B7c:X2:= .seq (.reg [(L,.keep [3,7,8,9] [] [])]) (.seq (.reg [bn 10 .lss 9 8]) (.seq (.cond (S 10) .skip (.exit 0)) (.seq (.block 1 (.seq (.reg [mv 11 9,ia 12 7 9 3,lw 13 12 3,(L,.alloc 5 [aI 0,aI 0,.nil]),mv 4 11,so 5 13 3]) (.seq (.reg [mv 14 4,(L,.bin 15 .eql (S 14) (K 0)),mv 16 15,(H (16,G),.faddr 17 (S 5) 2),(H (16,G),.load 18 (S 17) G 1),(H (16,G),.call 19 39 [(S 18)]),(H (16,G),.mv 20 (S 3)),(H (16,G),.bin 21 .gtr (S 19) (S 20)),po 22 16 21]) C60))) C49)))
def C0h:X2:=(.seq (.reg [mv 27 3,mv 2 27]) .ret)
def cc650:X2:=(.seq (.reg [bo 1 0,(L,.mv 2 (K 0))]) (.seq (.reg [(L,.mv 3 (K 0))]) (.seq (.seq (.reg [fa 6 1 1,ld 7 6,ln 8 7,(L,.mv 9 (K 0))]) (.block 0 (.loop B7c))) C0h)))
theorem E27(v1:O)(a0:Xh)(v2:O)(x4:Xi)(A2l:O→O→Option O)(A9k:∀(v1 v2:O) zr,A2l v1 v2=H zr→∀σ:St,σ.kept [3,7,8,9] [] []=⟨[(3,vc (aI v1)),(7,vc (aL (W X a0.Branches))),(8,vc (aI (a0.Branches.length:O))),(9,vc (aI v2))],[],[]⟩→go U (.code (.loop B7c):: [.blk 0,.code C0h]) (Ret [2] [.sc (.v (.int .i64 zr))]) .normal (H σ))(v7:Bool)(r:O)(h:W5 v1 a0 v2 x4 A2l v7=H r)(σ:St)(hσ:σ.kept [3,5,7,8,9,22] [5] []=⟨[(3,vc (aI v1)),(5,vc (.pb 5 0)),(7,vc (aL (W X a0.Branches))),(8,vc (aI (a0.Branches.length:O))),(9,vc (aI v2)),(22,vc (aB v7))],[(5,(dm x4.row))],[]⟩):go U (.code C60:: [.blk 1,.code C49,.code (.loop B7c),.blk 0,.code C0h]) (Ret [2] [.sc (.v (.int .i64 r))]) .normal (H σ):=by
 unfold W5 at h
 rcases ic h with ⟨h8,h⟩|⟨h8,h⟩
 ·obtain⟨r9,h9,h⟩:=ob h
  try simp only[hσ,h8,C60,A,B,C,E,F,J]
  refine A2 (A40 _ _ h9) Q Q (uf Q) ?_
  try simp only[h8,C49,A,B,C,E,F,J]
  refine A9k _ _ _ h _ ?_
  try simp only[h8,A,B,C,E,F,J,V]
 ·try simp only[hσ,h8,C60,C49,A,B,C,E,F,J]
  refine A9k _ _ _ h _ ?_
  try simp only[h8,A,B,C,E,F,J,V]
theorem G0c(a0:Xh):∀(n:Nat) (v1 v2 r:O),L6 a0 n v1 v2=H r→∀σ:St,σ.kept [3,7,8,9] [] []=⟨[(3,vc (aI v1)),(7,vc (aL (W X a0.Branches))),(8,vc (aI (a0.Branches.length:O))),(9,vc (aI v2))],[],[]⟩→go U (.code (.loop B7c):: [.blk 0,.code C0h]) (Ret [2] [.sc (.v (.int .i64 r))]) .normal (H σ):=by
 intro n
 induction n with
 | zero=>intro _ _ r h; cases h
 | succ n ih=>
  intro v1 v2 r h σ hσ
  rw[L6] at h
  refine B5 ?_
  rcases ic h with ⟨h3,h⟩|⟨h3,h⟩
  ·obtain⟨x4,h4,h⟩:=ob h
   try simp only[hσ,h3,h4,B7c,A,B,C,E,F,J]
   refine B7 Q Q ?_
   rcases ic h with ⟨h5,h⟩|⟨h5,h⟩
   ·try simp only[h3,h4,h5,A,B,C,E,F,J]
    refine E27 _ _ _ _ (L6 a0 n) ih _ _ h _ ?_
    try simp only[h3,h4,h5,A,B,C,E,F,J,V]
   ·obtain⟨r6,h6,h⟩:=ob h
    try simp only[h3,h4,h5,A,B,C,E,F,J]
    refine A2 (A40 _ _ h6) Q Q (uf Q) ?_
    try simp only[h3,h4,h5,A,B,C,E,F,J]
    refine E27 _ _ _ _ (L6 a0 n) ih _ _ h _ ?_
    try simp only[h3,h4,h5,A,B,C,E,F,J,V]
  ·try simp only[hσ,h3,B7c,C0h,A,B,C,E,F,J]
   cases h
   trivial
theorem F11:A5 U 15=H (cc650.strip,[2],28):=by kernel_rfl
theorem B81(a0:Xh)(r:O)(h:A6n a0=H r):FC U 15 [.ag (Xh.row a0)] [.sc (.v (.int .i64 r))]:=by
 unfold A6n at h
 refine C3 mixed F11 Q ?_
 simp only[cc650,A,B,C,E,F,J]
 try simp only[A,B,C,E,F,J]
 refine B2 Q Q Q ?_
 try simp only[A,B,C,E,F,J]
 refine G0c _ _ _ _ _ h _ ?_
 try simp only[A,B,C,E,F,J,V]
/- 16:impl_LeastCost -/
def C48:X2:= .seq (.reg [(L,.keep [3,5,7,8,9,22] [5] [])]) (.cond (S 22) (.reg [fa 23 5 2,ld 24 23,ca 25 39 [S 24],mv 3 25]) .skip)
def C6y:X2:=(.reg [(L,.bin 26 .add (S 9) (K 1)),mv 9 26])
def B7j:X2:= .seq (.reg [(L,.keep [3,7,8,9] [] [])]) (.seq (.reg [bn 10 .lss 9 8]) (.seq (.cond (S 10) .skip (.exit 0)) (.seq (.block 1 (.seq (.reg [mv 11 9,ia 12 7 9 3,lw 13 12 3,(L,.alloc 5 [aI 0,aI 0,.nil]),mv 4 11,so 5 13 3]) (.seq (.reg [mv 14 4,(L,.bin 15 .eql (S 14) (K 0)),mv 16 15,(H (16,G),.faddr 17 (S 5) 2),(H (16,G),.load 18 (S 17) G 1),(H (16,G),.call 19 39 [(S 18)]),(H (16,G),.mv 20 (S 3)),(H (16,G),.bin 21 .lss (S 19) (S 20)),po 22 16 21]) C48))) C6y)))
def B95:X2:=(.seq (.reg [mv 27 3,mv 2 27]) .ret)
def cc658:X2:=(.seq (.reg [bo 1 0,(L,.mv 2 (K 0))]) (.seq (.reg [(L,.mv 3 (K 0))]) (.seq (.seq (.reg [fa 6 1 1,ld 7 6,ln 8 7,(L,.mv 9 (K 0))]) (.block 0 (.loop B7j))) B95)))
theorem E21(v1:O)(a0:Xh)(v2:O)(x4:Xi)(A2s:O→O→Option O)(A9n:∀(v1 v2:O) zr,A2s v1 v2=H zr→∀σ:St,σ.kept [3,7,8,9] [] []=⟨[(3,vc (aI v1)),(7,vc (aL (W X a0.Branches))),(8,vc (aI (a0.Branches.length:O))),(9,vc (aI v2))],[],[]⟩→go U (.code (.loop B7j):: [.blk 0,.code B95]) (Ret [2] [.sc (.v (.int .i64 zr))]) .normal (H σ))(v7:Bool)(r:O)(h:W1 v1 a0 v2 x4 A2s v7=H r)(σ:St)(hσ:σ.kept [3,5,7,8,9,22] [5] []=⟨[(3,vc (aI v1)),(5,vc (.pb 5 0)),(7,vc (aL (W X a0.Branches))),(8,vc (aI (a0.Branches.length:O))),(9,vc (aI v2)),(22,vc (aB v7))],[(5,(dm x4.row))],[]⟩):go U (.code C48:: [.blk 1,.code C6y,.code (.loop B7j),.blk 0,.code B95]) (Ret [2] [.sc (.v (.int .i64 r))]) .normal (H σ):=by
 unfold W1 at h
 rcases ic h with ⟨h8,h⟩|⟨h8,h⟩
 ·obtain⟨r9,h9,h⟩:=ob h
  try simp only[hσ,h8,C48,A,B,C,E,F,J]
  refine A2 (A40 _ _ h9) Q Q (uf Q) ?_
  try simp only[h8,C6y,A,B,C,E,F,J]
  refine A9n _ _ _ h _ ?_
  try simp only[h8,A,B,C,E,F,J,V]
 ·try simp only[hσ,h8,C48,C6y,A,B,C,E,F,J]
  refine A9n _ _ _ h _ ?_
  try simp only[h8,A,B,C,E,F,J,V]
theorem F9y(a0:Xh):∀(n:Nat) (v1 v2 r:O),L5 a0 n v1 v2=H r→∀σ:St,σ.kept [3,7,8,9] [] []=⟨[(3,vc (aI v1)),(7,vc (aL (W X a0.Branches))),(8,vc (aI (a0.Branches.length:O))),(9,vc (aI v2))],[],[]⟩→go U (.code (.loop B7j):: [.blk 0,.code B95]) (Ret [2] [.sc (.v (.int .i64 r))]) .normal (H σ):=by
 intro n
 induction n with
 | zero=>intro _ _ r h; cases h
 | succ n ih=>
  intro v1 v2 r h σ hσ
  rw[L5] at h
  refine B5 ?_
  rcases ic h with ⟨h3,h⟩|⟨h3,h⟩
  ·obtain⟨x4,h4,h⟩:=ob h
   try simp only[hσ,h3,h4,B7j,A,B,C,E,F,J]
   refine B7 Q Q ?_
   rcases ic h with ⟨h5,h⟩|⟨h5,h⟩
   ·try simp only[h3,h4,h5,A,B,C,E,F,J]
    refine E21 _ _ _ _ (L5 a0 n) ih _ _ h _ ?_
    try simp only[h3,h4,h5,A,B,C,E,F,J,V]
   ·obtain⟨r6,h6,h⟩:=ob h
    try simp only[h3,h4,h5,A,B,C,E,F,J]
    refine A2 (A40 _ _ h6) Q Q (uf Q) ?_
    try simp only[h3,h4,h5,A,B,C,E,F,J]
    refine E21 _ _ _ _ (L5 a0 n) ih _ _ h _ ?_
    try simp only[h3,h4,h5,A,B,C,E,F,J,V]
  ·try simp only[hσ,h3,B7j,B95,A,B,C,E,F,J]
   cases h
   trivial
theorem F9s:A5 U 16=H (cc658.strip,[2],28):=by kernel_rfl
theorem B9t(a0:Xh)(r:O)(h:A6f a0=H r):FC U 16 [.ag (Xh.row a0)] [.sc (.v (.int .i64 r))]:=by
 unfold A6f at h
 refine C3 mixed F9s Q ?_
 simp only[cc658,A,B,C,E,F,J]
 try simp only[A,B,C,E,F,J]
 refine B2 Q Q Q ?_
 try simp only[A,B,C,E,F,J]
 refine F9y _ _ _ _ _ h _ ?_
 try simp only[A,B,C,E,F,J,V]
/- 41:impl_FormatInt -/
def cc662:X2:=(.seq (.reg [(L,.mv 2 (KS []))]) (.seq (.reg [mv 3 0,ca 4 70 [S 3],mv 2 4]) .ret))
theorem F7y:A5 U 41=H (cc662.strip,[2],5):=by kernel_rfl
theorem A8y(a0:O)(r:(N P))(h:A0l a0=H r):FC U 41 [.sc (.int .i64 a0)] [.sc (.v (.str r))]:=by
 unfold A0l at h
 refine C3 mixed F7y Q ?_
 simp only[cc662,A,B,C,E,F,J]
 obtain⟨r1,h1,h⟩:=ob h
 try simp only[A,B,C,E,F,J]
 refine A2 (C2q _ _ h1) Q Q (uf Q) ?_
 try simp only[A,B,C,E,F,J]
 cases h
 trivial
/- 68:impl_word -/
def cc664:X2:=(.seq (.reg [(L,.mv 2 (KS []))]) (.seq (.seq (.reg [mv 5 0]) (.block 0 (.seq (.reg [(L,.tass 6 (S 5) 3 (aI 0)),xt 7 6 1,xt 8 6 0]) (.cond (S 7) (.seq (.reg [mv 3 8]) (.seq (.reg [mv 9 3,ca 10 41 [S 9],mv 2 10]) .ret)) (.seq (.reg [(L,.tass 11 (S 5) 9 (aS [])),xt 12 11 1,xt 13 11 0]) (.cond (S 12) (.seq (.reg [mv 4 13]) (.seq (.reg [mv 14 4,mv 2 14]) .ret)) .skip)))))) (.seq (.reg [(L,.mv 2 (KS []))]) .ret)))
theorem F5c:A5 U 68=H (cc664.strip,[2],15):=by kernel_rfl
theorem C97(a0:Xq)(r:(N P))(h:A8d a0=H r):FC U 68 [.sc (D2e a0)] [.sc (.v (.str r))]:=by
 unfold A8d at h
 refine C3 mixed F5c Q ?_
 simp only[cc664,A,B,C,E,F,J]
 rcases ic h with ⟨h1,h⟩|⟨h1,h⟩
 ·try simp only[h1,A,B,C,E,F,J]
  cases h
  trivial
 ·obtain⟨r2,h2,h⟩:=ob h
  try simp only[h1,A,B,C,E,F,J]
  refine A2 (A8y _ _ h2) Q Q (uf Q) ?_
  try simp only[h1,A,B,C,E,F,J]
  cases h
  trivial
/- 69:impl_Join -/
def cc666:X2:=(.seq (.reg [(L,.mv 4 (KS []))]) (.seq (.reg [mv 5 0,mv 6 1,ca 7 91 [S 5,S 6],mv 4 7]) .ret))
theorem F7r:A5 U 69=H (cc666.strip,[4],8):=by kernel_rfl
theorem D0h(a0:N (N P))(a1:N P)(r:(N P))(h:A63 a0 a1=H r):FC U 69 [.sc (.sl (W rS a0)),.sc (.str a1)] [.sc (.v (.str r))]:=by
 unfold A63 at h
 refine C3 mixed F7r Q ?_
 simp only[cc666,A,B,C,E,F,J]
 obtain⟨r1,h1,h⟩:=ob h
 try simp only[A,B,C,E,F,J]
 refine A2 (C2z _ _ _ h1) Q Q (uf Q) ?_
 try simp only[A,B,C,E,F,J]
 cases h
 trivial
/- 40:impl_words -/
def C5a:X2:= .seq (.reg [(L,.keep [3,7,8,9] [] [384])]) (.seq (.reg [bn 10 .lss 9 8]) (.seq (.cond (S 10) .skip (.exit 0)) (.seq (.block 1 (.seq (.reg [ia 11 7 9 1,ld 12 11,mv 5 12]) (.reg [mv 13 3,mv 14 5,ca 15 68 [S 14],(L,.bslice 16 1 [.str []] 1 [(0,(S 15))]),(L,.app 17 1 16 (S 13) (S 16)),mv 3 17]))) (.reg [(L,.bin 18 .add (S 9) (K 1)),mv 9 18]))))
def D22:X2:=(.seq (.reg [mv 19 3,ca 20 69 [S 19,KS [32]],mv 2 20]) .ret)
def cc670:X2:=(.seq (.reg [(L,.mv 2 (KS []))]) (.seq (.reg [(L,.bslice 6 1 [.str []] 0 []),mv 3 6]) (.seq (.seq (.reg [mv 7 0,ln 8 7,(L,.mv 9 (K 0))]) (.block 0 (.loop C5a))) D22)))
theorem F47(a0:N Xq):∀(n:Nat) (v1:O) (v2:N (N P)) (r:(N P)),A18 a0 n v1 v2=H r→∀σ:St,σ.kept [3,7,8,9] [] [384]=⟨[(3,vc (.own 384)),(7,vc (aL (W rA a0))),(8,vc (aI (a0.length:O))),(9,vc (aI v1))],[],[(384,1,W rS v2)]⟩→go U (.code (.loop C5a):: [.blk 0,.code D22]) (Ret [2] [.sc (.v (.str r))]) .normal (H σ):=by
 intro n
 induction n with
 | zero=>intro _ _ r h; cases h
 | succ n ih=>
  intro v1 v2 r h σ hσ
  rw[A18] at h
  refine B5 ?_
  rcases ic h with ⟨h3,h⟩|⟨h3,h⟩
  ·obtain⟨x4,h4,h⟩:=ob h
   obtain⟨r5,h5,h⟩:=ob h
   try simp only[hσ,h3,h4,C5a,A,B,C,E,F,J]
   refine A2 (C97 _ _ h5) Q Q (uf Q) ?_
   try simp only[h3,h4,A,B,C,E,F,J]
   refine D6 (es:=W rS ([r5]:N (N P))) Q Q ?_
   obtain⟨h6,h⟩:=C9 h
   try simp only[h3,h4,h6,A,B,C,E,F,J]
   refine ih _ _ _ h _ ?_
   try simp only[h3,h4,h6,A,B,C,E,F,J,V]
  ·obtain⟨r7,h7,h⟩:=ob h
   try simp only[hσ,h3,C5a,D22,A,B,C,E,F,J]
   refine P4 (D0h _ _ _ h7) Q (N9 Q) Q (uf Q) ?_
   try simp only[h3,A,B,C,E,F,J]
   cases h
   trivial
theorem F54:A5 U 40=H (cc670.strip,[2],21):=by kernel_rfl
theorem C9b(a0:N Xq)(r:(N P))(h:A7n a0=H r):FC U 40 [.sc (.sl (W rA a0))] [.sc (.v (.str r))]:=by
 unfold A7n at h
 refine C3 mixed F54 Q ?_
 simp only[cc670,A,B,C,E,F,J]
 try simp only[A,B,C,E,F,J]
 refine D6 (es:=W rS ([]:N (N P))) Q Q ?_
 try simp only[A,B,C,E,F,J]
 refine F47 _ _ _ _ _ h _ ?_
 try simp only[A,B,C,E,F,J,V]
/- 17:impl_StrategyLines -/
def C5w:X2:= .seq (.reg [(L,.keep [3,8,9,10] [] [384])]) (.seq (.reg [bn 11 .lss 10 9]) (.seq (.cond (S 11) .skip (.exit 0)) (.seq (.block 1 (.seq (.reg [ia 12 8 10 3,lw 13 12 3,(L,.alloc 5 [aI 0,aI 0,.nil]),so 5 13 3]) (.drw [(H [17,21,26,28,29,30],mv 14 3),o0 (fa 15 5 0),o0 (ld 16 15),o0 (ca 17 41 [S 16]),(H [21,26],(L,.bin 18 .add (S 17) (KS [46,46]))),(H [17],fa 19 5 1),(H [17],ld 20 19),o0 (ca 21 41 [S 20]),(H [26],bn 22 .add 18 21),(H [26],(L,.mkif 23 9 (S 22))),(H [17,21],fa 24 5 2),(H [17,21],ld 25 24),o0 (ca 26 39 [S 25]),o0 (L,.mkif 27 3 (S 26)),o0 (L,.bslice 28 1 [.noi] 2 [(0,(S 23)),(1,(S 27))]),o0 (ca 29 40 [S 28]),o0 (L,.bslice 30 1 [.str []] 1 [(0,(S 29))]),(L,(L,.app 31 1 16 (S 14) (S 30))),o0 (mv 3 31)]))) (.reg [(L,.bin 32 .add (S 10) (K 1)),mv 10 32]))))
def D2l:X2:=(.seq (.reg [mv 33 3,mv 2 33]) .ret)
def cc675:X2:=(.seq (.reg [bo 1 0,(L,.mv 2 KN)]) (.seq (.reg [(L,.bslice 6 1 [.str []] 0 []),mv 3 6]) (.seq (.seq (.reg [fa 7 1 1,ld 8 7,ln 9 8,(L,.mv 10 (K 0))]) (.block 0 (.loop C5w))) D2l)))
theorem F84(a0:Xh):∀(n:Nat) (v1:O) (v2:N (N P)) (r:(N (N P))),O6 a0 n v1 v2=H r→∀σ:St,σ.kept [3,8,9,10] [] [384]=⟨[(3,vc (.own 384)),(8,vc (aL (W X a0.Branches))),(9,vc (aI (a0.Branches.length:O))),(10,vc (aI v1))],[],[(384,1,W rS v2)]⟩→go U (.code (.loop C5w):: [.blk 0,.code D2l]) (Ret [2] [.sc (.o 1 (W rS r))]) .normal (H σ):=by
 intro n
 induction n with
 | zero=>intro _ _ r h; cases h
 | succ n ih=>
  intro v1 v2 r h σ hσ
  rw[O6] at h
  refine B5 ?_
  rcases ic h with ⟨h3,h⟩|⟨h3,h⟩
  ·obtain⟨x4,h4,h⟩:=ob h
   try simp only[hσ,h3,h4,C5w,A,B,C,E,F,J]
   refine B7 Q Q ?_
   try simp only[h3,h4,A,B,C,E,F,J]
   refine B3 Q ?_
   obtain⟨r5,h5,h⟩:=ob h
   try simp only[h3,h4,A,B,C,E,F,J]
   refine E1 (A8y _ _ h5) Q Q (uf Q) ?_
   obtain⟨h6,h⟩:=C9 h
   obtain⟨r7,h7,h⟩:=ob h
   try simp only[h3,h4,h6,A,B,C,E,F,J]
   refine E1 (A8y _ _ h7) Q Q (uf Q) ?_
   obtain⟨h8,h⟩:=C9 h
   obtain⟨r9,h9,h⟩:=ob h
   try simp only[h3,h4,h6,h8,A,B,C,E,F,J]
   refine E1 (A40 _ _ h9) Q Q (uf Q) ?_
   try simp only[h3,h4,h6,h8,A,B,C,E,F,J]
   refine D6 (es:=W rA ([(⟨T,((r5++([46,46]:N P))++r7),0⟩:Xq),(⟨G,[],r9⟩:Xq)]:N Xq)) Q Q ?_
   obtain⟨r10,h10,h⟩:=ob h
   try simp only[h3,h4,h6,h8,A,B,C,E,F,J]
   refine A5p (C9b _ _ h10) (by first | rfl | kernel_rfl) (N9 Q) Q (uf Q) ?_
   try simp only[h3,h4,h6,h8,A,B,C,E,F,J]
   refine D6 (es:=W rS ([r10]:N (N P))) Q Q ?_
   obtain⟨h11,h⟩:=C9 h
   try simp only[h3,h4,h6,h8,h11,A,B,C,E,F,J]
   refine B3 Q ?_
   try simp only[h3,h4,h6,h8,h11,A,B,C,E,F,J]
   refine ih _ _ _ h _ ?_
   try simp only[h3,h4,h6,h8,h11,A,B,C,E,F,J,V]
  ·try simp only[hσ,h3,C5w,D2l,A,B,C,E,F,J]
   cases h
   trivial
theorem F2t:A5 U 17=H (cc675.strip,[2],34):=by kernel_rfl
theorem B4w(a0:Xh)(r:(N (N P)))(h:A1e a0=H r):FC U 17 [.ag (Xh.row a0)] [.sc (.o 1 (W rS r))]:=by
 unfold A1e at h
 refine C3 mixed F2t Q ?_
 simp only[cc675,A,B,C,E,F,J]
 try simp only[A,B,C,E,F,J]
 refine B2 Q Q Q ?_
 try simp only[A,B,C,E,F,J]
 refine D6 (es:=W rS ([]:N (N P))) Q Q ?_
 try simp only[A,B,C,E,F,J]
 refine F84 _ _ _ _ _ h _ ?_
 try simp only[A,B,C,E,F,J,V]
/- 3:laws_FnStrategies -/
def C5y:X2:= .seq (.reg [(L,.keep [3,4,5,7,10,12] [3,7] [2241])]) (.seq (.seq (.reg [mv 61 12,mv 62 10,bn 63 .leq 61 62]) (.cond (S 63) .skip (.exit 0))) (.seq (.block 1 (.seq (.reg [lw 66 7 2,mv 67 12,ca 68 8 [S 66,S 67],mv 13 68]) (.seq (.reg [mv 69 13,(L,.bin 70 .lss (S 69) (K 0)),mv 71 70,(H (71,G),.mv 72 (S 13)),(H (71,G),.faddr 73 (S 7) 1),(H (71,G),.load 74 (S 73) G 1),(H (71,G),.len 75 (S 74)),(H (71,G),.bin 76 .geq (S 72) (S 75)),po 77 71 76]) (.cond (S 77) (.seq (.reg [(L,.mv 2 (KB G))]) .ret) .skip)))) (.reg [mv 64 12,(L,.bin 65 .add (S 64) (K 1)),mv 12 65])))
def C6x:X2:= .seq (.reg [(L,.keep [3,4,5,7,79,80,81,114,115,116] [3,7] [2241])]) (.seq (.reg [bn 117 .lss 116 115]) (.seq (.cond (S 117) .skip (.exit 4)) (.seq (.block 5 (.seq (.reg [ia 118 114 116 4,lw 119 118 4,(L,.alloc 19 [aI 0,aI 0,aI 0,.nil]),so 19 119 4]) (.seq (.reg [lw 120 19 4,mv 121 5,ca 122 12 [S 120,S 121],ln 123 122,(L,.bin 124 .neq (S 123) (K 0))]) (.cond (S 124) (.seq (.reg [(L,.mv 2 (KB G))]) .ret) .skip)))) (.reg [(L,.bin 125 .add (S 116) (K 1)),mv 116 125]))))
def D1w:X2:=(.reg [(L,.bin 126 .add (S 81) (K 1)),mv 81 126])
def B7h:X2:= .seq (.reg [(L,.keep [3,4,5,7,79,80,81] [3,7] [2241])]) (.seq (.reg [bn 82 .lss 81 80]) (.seq (.cond (S 82) .skip (.exit 2)) (.seq (.block 3 (.seq (.reg [ia 83 79 81 3,lw 84 83 3,(L,.alloc 15 [aI 0,aI 0,.nil]),so 15 84 3]) (.seq (.reg [lw 86 3 12,mv 87 5,fa 88 15 0,ld 89 88,fa 90 15 1,ld 91 90,ca 92 9 [S 86,S 87,S 89,S 91],mv 85 92,xt 93 85 0,xt 94 85 1,(L,.alloc 16 [aI 0,.nil,.nil,.nil,.nil,.nil,aI 0,aB G,aI 0,aI 0,aI 0,.nil]),so 16 93 12,mv 17 94]) (.seq (.seq (.reg [mv 95 17,nt 96 95,mv 97 96,(H (97,G),.load 98 (S 16) T 12),(H (97,G),.mv 99 (S 4)),(H (97,G),.faddr 100 (S 15) 2),(H (97,G),.load 101 (S 100) G 1),(H (97,G),.call 102 10 [(S 98),(S 99),(S 101)]),(H (97,G),.un 103 .not (S 102)),po 104 97 103,mv 105 104,(H (105,G),.faddr 106 (S 16) 0),(H (105,G),.load 107 (S 106) T 3),(H (105,G),.faddr 108 (S 3) 0),(H (105,G),.load 109 (S 108) T 3),(H (105,G),.call 110 11 [(S 107),(S 109)]),(H (105,G),.un 111 .not (S 110)),po 112 105 111]) (.cond (S 112) (.seq (.reg [(L,.mv 2 (KB G))]) .ret) .skip)) (.seq (.reg [fa 113 15 2,ld 114 113,ln 115 114,(L,.mv 116 (K 0))]) (.block 4 (.loop C6x))))))) D1w)))
def C1n:X2:=(.seq (.drw [o0 (lw 127 3 12),o0 (mv 128 4),o0 (lw 129 7 2),o0 (ca 130 13 [S 127,S 128,S 129]),o0 (mv 131 130),o0 (H (131,T),.load 132 (S 3) T 12),o0 (H (131,T),.load 133 (S 7) T 2),o0 (H (131,T),.call 134 14 [(S 132),(S 133)]),o0 (pa 135 131 134),o0 (mv 136 135),o0 (H (136,T),.load 137 (S 7) T 2),o0 (H (136,T),.call 138 15 [(S 137)]),(H [138],(H (136,T),.load 139 (S 7) T 2)),o0 (H (136,T),.call 140 16 [(S 139)]),o0 (H (136,T),.bin 141 .geq (S 138) (S 140)),o0 (pa 142 136 141),o0 (mv 143 142),o0 (H (143,T),.load 144 (S 7) T 2),o0 (H (143,T),.call 145 17 [(S 144)]),o0 (H (143,T),.len 146 (S 145)),(H [145],(H (143,T),.faddr 147 (S 7) 1)),(H [145],(H (143,T),.load 148 (S 147) G 1)),(H [145],(H (143,T),.len 149 (S 148))),o0 (H (143,T),.bin 150 .eql (S 146) (S 149)),o0 (pa 151 143 150),o0 (mv 2 151)]) .ret)
def D3e:X2:=(.seq (.seq (.reg [fa 78 7 1,ld 79 78,ln 80 79,(L,.mv 81 (K 0))]) (.block 2 (.loop B7h))) C1n)
def cc684:X2:=(.seq (.reg [(L,.mv 2 (KB G))]) (.seq (.seq (.reg [mv 20 0,ln 21 20,(L,.bin 22 .gtr (S 21) (K 1048576))]) (.cond (S 22) (.seq (.reg [(L,.mv 2 (KB T))]) .ret) .skip)) (.seq (.reg [mv 24 0,ca 25 4 [S 24],mv 23 25,xt 26 23 0,xt 27 23 1,xt 28 23 2,xt 29 23 3,(L,.alloc 3 [aI 0,.nil,.nil,.nil,.nil,.nil,aI 0,aB G,aI 0,aI 0,aI 0,.nil]),so 3 26 12,mv 4 27,mv 5 28,mv 6 29]) (.seq (.reg [lw 31 3 12,mv 32 4,mv 33 5,mv 34 6,ca 35 5 [S 31,S 32,S 33,S 34],mv 30 35,xt 36 30 0,xt 37 30 1,(L,.alloc 7 [aI 0,.nil]),so 7 36 2,mv 8 37]) (.seq (.reg [fa 39 3 0,lw 40 39 3,mv 41 5,ca 42 6 [S 40,S 41],mv 38 42,xt 43 38 0,xt 44 38 1,xt 45 38 2,mv 9 43,mv 10 44,mv 11 45]) (.seq (.seq (.reg [lw 46 3 12,mv 47 4,ca 48 7 [S 46,S 47],nt 49 48,mv 50 49,(H (50,G),.mv 51 (S 11)),(H (50,G),.un 52 .not (S 51)),po 53 50 52]) (.cond (S 53) (.seq (.reg [(L,.mv 2 (KB G))]) .ret) .skip)) (.seq (.seq (.reg [mv 54 8,nt 55 54]) (.cond (S 55) (.seq (.reg [fa 56 7 1,ld 57 56,ln 58 57,(L,.bin 59 .eql (S 58) (K 0)),mv 2 59]) .ret) .skip)) (.seq (.seq (.reg [mv 60 9,mv 12 60]) (.block 0 (.loop C5y))) D3e))))))))
theorem F4d(r2:X4 × (N Xa) × O × (N O))(r3:Xh × Bool)(v14:O)(x16:Xi)(A0w:O→Option Bool)(B3e:∀(v14:O) zr,A0w v14=H zr→∀σ:St,σ.kept [3,4,5,7,79,80,81] [3,7] [2241]=⟨[(3,vc (.pb 3 0)),(4,vc (aL (W Xa.row r2.2.1))),(5,vc (aI r2.2.2.1)),(7,vc (.pb 7 0)),(79,vc (.own 2241)),(80,vc (aI (r3.1.Branches.length:O))),(81,vc (aI v14))],[(3,(dm r2.1.row)),(7,[aI r3.1.Minute,.own 2241])],[(2241,3,W X r3.1.Branches)]⟩→go U (.code (.loop B7h):: [.blk 2,.code C1n]) (Ret [2] [.sc (.v (.bool zr))]) .normal (H σ)):∀(n:Nat) (v23:O) (r:Bool),P5 r2 r3 v14 x16 A0w n v23=H r→∀σ:St,σ.kept [3,4,5,7,79,80,81,114,115,116] [3,7] [2241]=⟨[(3,vc (.pb 3 0)),(4,vc (aL (W Xa.row r2.2.1))),(5,vc (aI r2.2.2.1)),(7,vc (.pb 7 0)),(79,vc (.own 2241)),(80,vc (aI (r3.1.Branches.length:O))),(81,vc (aI v14)),(114,vc (aL (W X0.row x16.Plan))),(115,vc (aI (x16.Plan.length:O))),(116,vc (aI v23))],[(3,(dm r2.1.row)),(7,[aI r3.1.Minute,.own 2241])],[(2241,3,W X r3.1.Branches)]⟩→go U (.code (.loop C6x):: [.blk 4,.blk 3,.code D1w,.code (.loop B7h),.blk 2,.code C1n]) (Ret [2] [.sc (.v (.bool r))]) .normal (H σ):=by
 intro n
 induction n with
 | zero=>intro _ r h; cases h
 | succ n ih=>
  intro v23 r h σ hσ
  rw[P5] at h
  refine B5 ?_
  rcases ic h with ⟨h24,h⟩|⟨h24,h⟩
  ·obtain⟨x25,h25,h⟩:=ob h
   try simp only[hσ,h24,h25,C6x,A,B,C,E,F,J]
   refine B7 Q Q ?_
   obtain⟨r26,h26,h⟩:=ob h
   try simp only[h24,h25,A,B,C,E,F,J]
   refine A2 (A7e _ _ _ h26) Q Q (uf Q) ?_
   rcases ic h with ⟨h27,h⟩|⟨h27,h⟩
   ·try simp only[h24,h25,h27,A,B,C,E,F,J]
    cases h
    trivial
   ·try simp only[h24,h25,h27,A,B,C,E,F,J]
    refine ih _ _ h _ ?_
    try simp only[h24,h25,h27,A,B,C,E,F,J,V]
  ·try simp only[hσ,h24,C6x,D1w,A,B,C,E,F,J]
   refine B3e _ _ h _ ?_
   try simp only[h24,A,B,C,E,F,J,V]
theorem F5g(r2:X4 × (N Xa) × O × (N O))(r3:Xh × Bool):∀(n:Nat) (v14:O) (r:Bool),J9 r2 r3 n v14=H r→∀σ:St,σ.kept [3,4,5,7,79,80,81] [3,7] [2241]=⟨[(3,vc (.pb 3 0)),(4,vc (aL (W Xa.row r2.2.1))),(5,vc (aI r2.2.2.1)),(7,vc (.pb 7 0)),(79,vc (.own 2241)),(80,vc (aI (r3.1.Branches.length:O))),(81,vc (aI v14))],[(3,(dm r2.1.row)),(7,[aI r3.1.Minute,.own 2241])],[(2241,3,W X r3.1.Branches)]⟩→go U (.code (.loop B7h):: [.blk 2,.code C1n]) (Ret [2] [.sc (.v (.bool r))]) .normal (H σ):=by
 intro n
 induction n with
 | zero=>intro _ r h; cases h
 | succ n ih=>
  intro v14 r h σ hσ
  rw[J9] at h
  refine B5 ?_
  rcases ic h with ⟨h15,h⟩|⟨h15,h⟩
  ·obtain⟨x16,h16,h⟩:=ob h
   have h16n:=M2 h16
   try simp only[hσ,h15,h16,h16n,B7h,A,B,C,E,F,J]
   refine B7 Q Q ?_
   obtain⟨r17,h17,h⟩:=ob h
   try simp only[h15,h16,h16n,A,B,C,E,F,J]
   refine A2 (A7d _ _ _ _ _ h17) Q Q (uf Q) ?_
   try simp only[h15,h16,h16n,A,B,C,E,F,J]
   refine B7 Q Q ?_
   rcases ic h with ⟨h18,h⟩|⟨h18,h⟩
   ·obtain⟨r19,h19,h⟩:=ob h
    try simp only[h15,h16,h16n,h18,A,B,C,E,F,J]
    refine P4 (B5a _ _ _ _ h19) Q (N9 Q) Q (uf Q) ?_
    rcases ic h with ⟨h20,h⟩|⟨h20,h⟩
    ·obtain⟨r21,h21,h⟩:=ob h
     try simp only[h15,h16,h16n,h18,h20,A,B,C,E,F,J]
     refine P4 (B5n _ _ _ h21) Q (N9 Q) Q (uf Q) ?_
     rcases ic h with ⟨h22,h⟩|⟨h22,h⟩
     ·try simp only[h15,h16,h16n,h18,h20,h22,A,B,C,E,F,J]
      refine F4d _ _ _ _ (J9 r2 r3 n) ih _ _ _ h _ ?_
      try simp only[h15,h16,h16n,h18,h20,h22,A,B,C,E,F,J,V]
     ·try simp only[h15,h16,h16n,h18,h20,h22,A,B,C,E,F,J]
      cases h
      trivial
    ·try simp only[h15,h16,h16n,h18,h20,A,B,C,E,F,J]
     cases h
     trivial
   ·try simp only[h15,h16,h16n,h18,A,B,C,E,F,J]
    cases h
    trivial
  ·try simp only[hσ,h15,B7h,C1n,A,B,C,E,F,J]
   refine B3 Q ?_
   obtain⟨r28,h28,h⟩:=ob h
   try simp only[h15,A,B,C,E,F,J]
   refine A5p (B8d _ _ _ _ h28) (by first | rfl | kernel_rfl) (N9 Q) Q (uf Q) ?_
   rcases ic h with ⟨h29,h⟩|⟨h29,h⟩
   ·obtain⟨r30,h30,h⟩:=ob h
    try simp only[h15,h29,A,B,C,E,F,J]
    refine A5p (B0z _ _ _ h30) (by first | rfl | kernel_rfl) (N9 Q) Q (uf Q) ?_
    rcases ic h with ⟨h31,h⟩|⟨h31,h⟩
    ·obtain⟨r32,h32,h⟩:=ob h
     try simp only[h15,h29,h31,A,B,C,E,F,J]
     refine A5p (B81 _ _ h32) (by first | rfl | kernel_rfl) (N9 Q) Q (uf Q) ?_
     obtain⟨r33,h33,h⟩:=ob h
     try simp only[h15,h29,h31,A,B,C,E,F,J]
     refine A5p (B9t _ _ h33) (by first | rfl | kernel_rfl) (N9 Q) Q (uf Q) ?_
     rcases ic h with ⟨h34,h⟩|⟨h34,h⟩
     ·obtain⟨r35,h35,h⟩:=ob h
      try simp only[h15,h29,h31,h34,A,B,C,E,F,J]
      refine A5p (B4w _ _ h35) (by first | rfl | kernel_rfl) (A7r Q ⟨A7m,⟨⟩⟩) Q (uf Q) ?_
      try simp only[h15,h29,h31,h34,A,B,C,E,F,J]
      cases h
      trivial
     ·try simp only[h15,h29,h31,h34,A,B,C,E,F,J]
      cases h
      trivial
    ·try simp only[h15,h29,h31,A,B,C,E,F,J]
     cases h
     trivial
   ·try simp only[h15,h29,A,B,C,E,F,J]
    cases h
    trivial
theorem F5q(r2:X4 × (N Xa) × O × (N O))(r4:O × O × Bool)(r3:Xh × Bool):∀(n:Nat) (v9:O) (r:Bool),Q1 r2 r4 r3 n v9=H r→∀σ:St,σ.kept [3,4,5,7,10,12] [3,7] [2241]=⟨[(3,vc (.pb 3 0)),(4,vc (aL (W Xa.row r2.2.1))),(5,vc (aI r2.2.2.1)),(7,vc (.pb 7 0)),(10,vc (aI r4.2.1)),(12,vc (aI v9))],[(3,(dm r2.1.row)),(7,[aI r3.1.Minute,.own 2241])],[(2241,3,W X r3.1.Branches)]⟩→go U (.code (.loop C5y):: [.blk 0,.code D3e]) (Ret [2] [.sc (.v (.bool r))]) .normal (H σ):=by
 intro n
 induction n with
 | zero=>intro _ r h; cases h
 | succ n ih=>
  intro v9 r h σ hσ
  rw[Q1] at h
  refine B5 ?_
  rcases ic h with ⟨h10,h⟩|⟨h10,h⟩
  ·obtain⟨r11,h11,h⟩:=ob h
   try simp only[hσ,h10,C5y,A,B,C,E,F,J]
   refine P4 (B83 _ _ _ h11) Q (N9 Q) Q (uf Q) ?_
   rcases ic h with ⟨h12,h⟩|⟨h12,h⟩
   ·try simp only[h10,h12,A,B,C,E,F,J]
    cases h
    trivial
   ·rcases ic h with ⟨h13,h⟩|⟨h13,h⟩
    ·try simp only[h10,h12,h13,A,B,C,E,F,J]
     cases h
     trivial
    ·try simp only[h10,h12,h13,A,B,C,E,F,J]
     refine ih _ _ h _ ?_
     try simp only[h10,h12,h13,A,B,C,E,F,J,V]
  ·try simp only[hσ,h10,C5y,D3e,A,B,C,E,F,J]
   refine F5g _ _ _ _ _ h _ ?_
   try simp only[h10,A,B,C,E,F,J,V]
theorem F32:A5 U 3=H (cc684.strip,[2],152):=by kernel_rfl
theorem S7q{g:Nat}{a b c d:R1}:S7 g [a,b,c,d]=K4 g 0 (a.cells++(b.cells++(c.cells++d.cells))):=by simp[S7]
theorem w_laws_FnStrategies(a0:N O)(r:Bool)(h:A4w a0=H r):FC U 3 [.sc (.sl (W r8 a0))] [.sc (.v (.bool r))]:=by
 unfold A4w at h
 refine C3 mixed F32 Q ?_
 simp only[cc684,A,B,C,E,F,J,S7q]
 rcases ic h with ⟨h1,h⟩|⟨h1,h⟩
 ·try simp only[h1,A,B,C,E,F,J,S7q]
  cases h
  trivial
 ·obtain⟨r2,h2,h⟩:=ob h
  try simp only[h1,A,B,C,E,F,J,S7q]
  refine A2 (C1u _ _ h2) Q Q (uf Q) ?_
  try simp only[h1,A,B,C,E,F,J,S7q]
  refine B7 Q Q ?_
  obtain⟨r3,h3,h⟩:=ob h
  try simp only[h1,A,B,C,E,F,J,S7q]
  refine A2 (B5h _ _ _ _ _ h3) Q Q (uf Q) ?_
  try simp only[h1,A,B,C,E,F,J,S7q]
  refine B7 Q Q ?_
  obtain⟨r4,h4,h⟩:=ob h
  try simp only[h1,A,B,C,E,F,J,S7q]
  refine A2 (A91 _ _ _ h4) Q Q (uf Q) ?_
  obtain⟨r5,h5,h⟩:=ob h
  try simp only[h1,A,B,C,E,F,J,S7q]
  refine A2 (A3v _ _ _ h5) Q Q (uf Q) ?_
  rcases ic h with ⟨h6,h⟩|⟨h6,h⟩
  ·rcases ic h with ⟨h7,h⟩|⟨h7,h⟩
   ·rcases ic h with ⟨h8,h⟩|⟨h8,h⟩
    ·try simp only[h1,h6,h7,h8,A,B,C,E,F,J,S7q]
     refine F5q _ _ _ _ _ _ h _ ?_
     try simp only[h1,h6,h7,h8,A,B,C,E,F,J,S7q,V]
    ·try simp only[h1,h6,h7,h8,A,B,C,E,F,J,S7q]
     cases h
     trivial
   ·try simp only[h1,h6,h7,A,B,C,E,F,J,S7q]
    cases h
    trivial
  ·try simp only[h1,h6,A,B,C,E,F,J,S7q]
   cases h
   trivial
end Go.Vi
