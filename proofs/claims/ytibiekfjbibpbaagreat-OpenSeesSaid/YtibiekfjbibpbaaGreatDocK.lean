import Derived.Test.YtibiekfjbibpbaaGreatDocN
set_option maxRecDepth 100000
set_option maxHeartbeats 8000000
set_option linter.unusedVariables false
set_option linter.unusedSimpArgs false
namespace Go.Proofs.YtibiekfjbibpbaaGreat
open Go.RowKit
theorem z2o (ps:Array (Nat×Value)):Instr.build 32 ps=bldM 32 ps:=rfl
attribute [local go_sem ↓ high] q0s q0f q0d q5l q7s q7o q6b q6p q0v q6v q7f q7e z2o
attribute [local go_sem] q1x q1p q1v q2t q4g Oper.semAt_some q0h
def rep0:Array Value:= #[.slice none 0 0,.slice none 0 0,.slice none 0 0,.slice none 0 0,.int .i64 0,.int .i64 0]
theorem z1n (l:List Int):∀xs:List Int,(l.foldl insA xs).length<=xs.length+l.length:=by
 induction l with
 | nil=>intro xs;simp
 | cons a l ih=>intro xs;have h1:=ih (insA xs a);have h2:=x1a xs a;rw[DT,BE];omega
theorem x2n {bs:List Int} (hb:∀x∈bs,0<=x/\x<256) {rs:List (List (Int×NodeA))} (h:q8z bs rs):rs.length<=16/\0<rs.length/\(∀row∈rs,row.length<=8320)/\ ∀row∈rs,∀x∈row,q1y bs x.1=some x.2/\x.1≠0:=by
 obtain⟨hs,_,n,hn,hr⟩:=h;have L:=q7l hn;have M:=q1s hs.1;have hp:=z0f hs.1;obtain⟨h1,h2⟩:=hr.chains hb L.1 (q8v hb (show 2<bs.length/8 by omega)).1;refine⟨by omega,by omega,fun row I=> ?_,fun row I x hx=> ?_⟩;·obtain⟨l,a,q1,q2⟩:=h2 row I;obtain⟨p,hw⟩:=q2.whole;have:=z0k hw hs.1 (q9y hb q2 q1);omega
 ·obtain⟨l,a,q1,q2⟩:=h2 row I;obtain⟨p,hw⟩:=q2.whole;exact⟨(hw.at' x hx).2.1,(hw.at' x hx).1⟩
theorem z1c {rs:List (List (Int×NodeA))} {m:Nat} (h:∀row∈rs,row.length<=m) (i:Nat):(allA (rs.take i)).length<=rs.length*m:=by
 have:=x1n (rows:=rs.take i) (fun row hr=>h row (Ab hr));have h2:(rs.take i).length<=rs.length:=by rw[AU];omega
 exact AH this (Bp _ h2)
section
variable {bs:List Int} {w:World} {N1 b6 b7 b10:Nat} {rs:List (List (Int×NodeA))} {leaves:List (Int×NodeA)} {a1 a2:Option Addr} {ml c1 c2:Nat} {pr:Value} {ps:List (Int×ByteArray)} {v:Value} {done rest:List (Int×Int)} {W W':World}
end
end Go.Proofs.YtibiekfjbibpbaaGreat
