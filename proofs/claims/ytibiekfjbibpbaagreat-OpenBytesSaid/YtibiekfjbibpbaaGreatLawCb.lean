/- The law CheckBytes, walked. -/
import Derived.Test.YtibiekfjbibpbaaGreatKnCk
set_option linter.unusedVariables false
set_option linter.unusedSimpArgs false
namespace Go.Proofs.YtibiekfjbibpbaaGreat
open Go.RowKit
def AnsOf (h nn err:Int) (ps:List (Int×ByteArray)) (R F K:List Int) (e:Ending) (w':World):Prop:=
 ∃pa pc ra rc fa fc ka kc,e= .returned (.tuple #[.agg #[.slice pa ps.length pc,.slice ra R.length rc,.slice fa F.length fc,.slice ka K.length kc,.int .i64 h,.int .i64 nn],.int .i64 err])∧
  RepAt w' (.slice pa ps.length pc) (.slice ra R.length rc) (.slice fa F.length fc) (.slice ka K.length kc) ps R F K
theorem dlook_none {bs:List Int} {w w':World} {e:Ending} (hno: ∀rs ps,¬WholeOK bs rs ps) (h:DLkPost bs w e w'):e= .returned (.tuple #[.agg rep0,.int .i64 6])∧Below w.heap.size w w':=by
 obtain⟨hb,(⟨rs,ps,_,_,_,_,_,hok,_⟩ | ⟨_,rfl⟩)⟩:=h
 ·exact absurd hok (hno rs ps)
 ·exact⟨rfl,hb⟩
theorem dlook_some {bs:List Int} {rs:List (List (Int×NodeA))} {ps:List (Int×ByteArray)} {leaves:List (Int×NodeA)} {w w':World} {e:Ending} (hok:WholeOK bs rs ps) (hl:rs.getLast?=some leaves) (h:DLkPost bs w e w'):
  Below w.heap.size w w'∧AnsOf (rs.length-1:Int) (nodesI rs) 0 ps (reachI rs leaves) ((reachI rs leaves).filter fun a=>decide (a∉refA bs (nsI bs))) ((refA bs (nsI bs)).filter fun a=>decide (a∉reachI rs leaves)) e w':=by
 obtain⟨hbl,(⟨rs',ps',leaves',pv,rv,fv,kv,hok',hl',rfl,q1,q2,q3,q4⟩ | ⟨hno,_⟩)⟩:=h
 ·obtain⟨e1,e2⟩:=whole_det hok' hok
  subst e1 e2
  rw[hl] at hl'
  injection hl' with hl'
  subst hl'
  obtain⟨pa,pc,rfl⟩:=row_form1 q1
  obtain⟨ra,rc,rfl⟩:=row_form1 q2
  obtain⟨fa,fc,rfl⟩:=row_form1 q3
  obtain⟨ka,kc,rfl⟩:=row_form1 q4
  exact⟨hbl,pa,pc,ra,rc,fa,fc,ka,kc,rfl,RepAt.of_own q1 q2 q3 q4⟩
 ·exact absurd hok (hno rs ps)
theorem ans_none (w':World):AnsOf 0 0 6 [] [] [] [] (.returned (.tuple #[.agg rep0,.int .i64 6])) w':=
 ⟨none,0,none,0,none,0,none,0,rfl,⟨Or.inl ⟨rfl,rfl,rfl⟩,⟨none,0,rfl,Nat.le_refl _⟩,⟨none,0,rfl,Or.inl rfl⟩,⟨none,0,rfl,Or.inl rfl⟩,⟨none,0,rfl,Or.inl rfl⟩⟩⟩
theorem vals_len {bs:List Int}: ∀{es:List (Int×Int)} {R:List Int} {ps:List (Int×ByteArray)},ValsAt bs R es ps→ps.length=es.length
 | [],_,_,h=>by have e:_=[]:=h;rw[e];rfl
 | e::es,R,_,h=>by
  obtain⟨s,ps',_,rfl,h2⟩:=h
  rw[List.length_cons,List.length_cons,vals_len h2]
theorem looks_same {bs:List Int} (hb: ∀x∈bs,0≤x∧x<256): ∃(h nn err:Int) (ps:List (Int×ByteArray)) (R F K:List Int),(err=0∨err=6∧h=0∧nn=0∧ps=[]∧R=[]∧F=[]∧K=[])∧(∀p∈ps,(0≤p.1∧p.1≤18446744073709551615)∧p.2.size≤120)∧(ps.length≤1000000∧R.length≤1000000∧F.length≤1000000∧K.length≤1000000)∧
  (∀w w' e,LookPost bs w e w'→Below w.heap.size w w'∧AnsOf h nn err ps R F K e w')∧(∀w w' e,DLkPost bs w e w'→Below w.heap.size w w'∧AnsOf h nn err ps R F K e w'):=by
 by_cases hex: ∃rs ps,WholeOK bs rs ps
 ·obtain⟨rs,ps,hok⟩:=hex
  obtain⟨leaves,hl,hv⟩:=hok.vals
  have hfw:=rows_few hb (rs:=rs) ⟨hok.slabs,hok.sup,hok.rows⟩
  have q1:=fold_len (allA rs++(allE leaves).map (·.2)) []
  have q2:=take_few hfw.2.2.1 rs.length
  have q3:rs.length*8320≤16*8320:=Nat.mul_le_mul_right _ hfw.1
  have q4:=allE_len leaves
  have q5:=hfw.2.2.1 leaves (List.mem_of_getLast? hl)
  have q6:=vals_len hv
  rw[List.take_length] at q2
  rw[List.length_append,List.length_map,List.length_nil] at q1
  have q7:(reachI rs leaves).length≤1000000:=by unfold reachI;omega
  have q8:(refA bs (nsI bs)).length≤1000000:=by
   have h1:=refL_len bs (nsI bs)
   have h2:=congrArg List.length (refA_eq bs (nsI bs))
   rw[List.length_map] at h2
   have h3:=slabs_len hok.slabs.1
   unfold nsI at*
   omega
  have q9:=List.length_filter_le (fun a=>decide (a∉refA bs (nsI bs))) (reachI rs leaves)
  have q10:=List.length_filter_le (fun a=>decide (a∉reachI rs leaves)) (refA bs (nsI bs))
  refine⟨_,_,0,ps,reachI rs leaves,_,_,Or.inl rfl,whole_small hb hok,⟨by omega,q7,by omega,by omega⟩,fun w w' e h=> ?_,fun w w' e h=>dlook_some hok hl h⟩
  obtain⟨h1,pa,pc,ra,rc,fa,fc,ka,kc,h2,h3⟩:=look_some hb hok hl h
  exact⟨h1,pa,pc,ra,rc,fa,fc,ka,kc,h2,h3⟩
 ·have hno: ∀rs ps,¬WholeOK bs rs ps:=fun rs ps h=>hex ⟨rs,ps,h⟩
  refine⟨0,0,6,[],[],[],[],Or.inr ⟨rfl,rfl,rfl,rfl,rfl,rfl,rfl⟩,(fun p hp=>by cases hp),by simp,fun w w' e h=> ?_,fun w w' e h=> ?_⟩
  ·obtain⟨rfl,h2⟩:=look_none hno h
   exact⟨h2,ans_none w'⟩
  ·obtain⟨rfl,h2⟩:=dlook_none hno h
   exact⟨h2,ans_none w'⟩
attribute [local go_sem ↓ high] repStoreAt2 repLoadAt repLoadVar drepBuild append_shut2
attribute [local go_sem] ldM_run lvM_run stM_run bldM_run Oper.semAt_some appM2_run
end Go.Proofs.YtibiekfjbibpbaaGreat
