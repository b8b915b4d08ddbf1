import Derived.Test.YtjmaicckkkdjpaaGreatF42
set_option maxRecDepth 100000
set_option maxHeartbeats 4000000
set_option linter.unusedVariables false
set_option linter.unusedSimpArgs false
/- A step of a scan, whatever machine is under it. -/
namespace Go.Proofs.YtjmaicckkkdjpaaGreat
open Go.RowKit
attribute [local go_sem ↓ high] nodeLoadAt nodeLoadVar nodeStoreAt scBuild lfBuild lfStoreAt
attribute [local go_sem] ldM_run lvM_run stM_run Oper.semAt_some run_store_fnG bldMg_run
def outS (d:Bool) (e:Int):Value:= .tuple #[.bool d,.int .i64 e]
theorem neIfS (T b:Nat) (w:World):(binOp .eql 154 (.iface T (ptrV b)) .nilIface).run Tryz.prog w= .ok (.bool false) w:=by kernel_rfl
attribute [local go_sem] neIfS
theorem ScU.at.iface {w:World} {si m g:Nat} {n:NodeA} {ky:Int} {u:ScU} {uv fv:Value} {us bs:List Nat} (h:u.at w si m g n ky uv fv us bs): ∃T b,uv= .iface T (ptrV b):=by
 cases u with
 | walk y=>obtain⟨wg,f0,bg,bw,rfl,_⟩:=h;exact⟨_,_,rfl⟩
 | read y=>obtain⟨rg,lv,br,bg,be,pt,N,rfl,_⟩:=h;exact⟨_,_,rfl⟩
 | still y=>obtain⟨sg,bg,bs',rfl,_⟩:=h;exact⟨_,_,rfl⟩
 | last l=>obtain⟨lg,lr,rfl,_⟩:=h;exact⟨_,_,rfl⟩
section
variable (si m g T ub:Nat) (x:ScP) (R:SR) (fv:Value)
theorem SStep_done (hd:x.done=true) (w:World) (hb:ScBlk w g si x R (.iface T (ptrV ub)) fv) (hsi:w.cell? ⟨si,0,none⟩=some (ptrV m)):
  Calls Tryz.prog 37 #[ptrV g] w fun e w'=>e= .returned (outS true x.e)∧Only [] w w':=by
 have MZ:=hid (XMem_c si m w hsi)
 have c3:w.cell? ⟨g,5,none⟩=some (.iface T (ptrV ub)):=hb.cell 5
 have c0:w.cell? ⟨g,0,none⟩=some (ptrV si):=hb.cell 0
 have c30:w.cell? ⟨g,36,none⟩=some (.bool true):=by rw[←hd];exact hb.cell 36
 have c31:w.cell? ⟨g,37,none⟩=some (.int .i64 x.e):=hb.cell 37
 clear hb hsi hd
 go_enter Tryz.func37,Tryz.ntmps37
 go_wp2_with fail
 refine MZ.out.mono ?_
 rintro e w1 ⟨rfl,rfl⟩
 go_upto_region 9 with fail
 go_region
 go_wp2_with fail
 go_ret2
 exact⟨rfl,(Only.refl _ _).drew⟩
theorem SStep_arg (hd:x.done=false) (ha:x.limit<1∨256<x.limit∨x.hi<x.lo) (w:World) (hb:ScBlk w g si x R (.iface T (ptrV ub)) fv) (hsi:w.cell? ⟨si,0,none⟩=some (ptrV m)):
  Calls Tryz.prog 37 #[ptrV g] w fun e w'=>e= .returned (outS true 2)∧ScBlk w' g si (x.fin 2) R (.iface T (ptrV ub)) fv∧Only [g] w w':=by
 have MZ:=hid (XMem_c si m w hsi)
 have c3:w.cell? ⟨g,5,none⟩=some (.iface T (ptrV ub)):=hb.cell 5
 have c0:w.cell? ⟨g,0,none⟩=some (ptrV si):=hb.cell 0
 have c30:w.cell? ⟨g,36,none⟩=some (.bool false):=by rw[←hd];exact hb.cell 36
 have d2:w.drew.cell? ⟨g,2,none⟩=some (.int .u64 x.lo):=hb.cell 2
 have d3:w.drew.cell? ⟨g,3,none⟩=some (.int .u64 x.hi):=hb.cell 3
 have d4:w.drew.cell? ⟨g,4,none⟩=some (.int .i64 x.limit):=hb.cell 4
 have EZ:=hid (SEnd_z si g x R (.iface T (ptrV ub)) fv 2 w.drew hb.drew)
 have a1:decide (x.limit<1)=true∨decide (x.limit<1)=false∧decide (256<x.limit)=true∨decide (x.limit<1)=false∧decide (256<x.limit)=false∧decide (x.hi<x.lo)=true:=by simp only[decide_eq_true_eq,decide_eq_false_iff_not];omega
 clear hb hsi hd ha
 go_enter Tryz.func37,Tryz.ntmps37
 go_wp2_with fail
 refine MZ.out.mono ?_
 rintro e w1 ⟨rfl,rfl⟩
 go_upto_region 7 with fail
 rcases a1 with a1 | ⟨a1,a2⟩ | ⟨a1,a2,a3⟩
 all_goals
  go_region
  go_wp2_with fail
  refine EZ.out.mono ?_
  intro e w2 hgo
  have he:=hgo.1
  subst he
  have HG:=hid hgo.2
  have k30:w2.drew.cell? ⟨g,36,none⟩=some (.bool true):=hgo.2.1.cell 36
  have k31:w2.drew.cell? ⟨g,37,none⟩=some (.int .i64 2):=hgo.2.1.cell 37
  clear hgo EZ c0 c3 c30 d2 d3 d4
  go_upto_region 9 with fail
  go_region
  go_wp2_with fail
  go_ret2
  exact⟨rfl,HG.out.1.drew,((Only.refl [g] _).drew.trans HG.out.2 (fun y hy=>Or.inl hy)).drew⟩
theorem SStep_still (F:Nat) (hd:x.done=false) (ha: ¬(x.limit<1∨256<x.limit∨x.hi<x.lo)) (w:World) (hb:ScBlk w g si x R (.iface T (ptrV ub)) fv) (hsi:w.cell? ⟨si,0,none⟩=some (ptrV m))
  (hme: ∀W,(method 431 T (ptrV ub) "Step").run Tryz.prog W= .ok (F,ptrV ub) W) (hF: ∀args W,(callFunc F args).run Tryz.prog W= .ok (.enter F args) W)
  (Q:World→Prop) (hU: ∀W,Below w.heap.size w W→Calls Tryz.prog F #[ptrV ub] W fun e w1=>e= .returned (.tuple #[.bool false,.int .i64 0])∧Q w1)
  (hQ: ∀w1,Q w1→w1.cell? ⟨g,36,none⟩=some (.bool false)∧w1.cell? ⟨g,37,none⟩=some (.int .i64 0)):
  Calls Tryz.prog 37 #[ptrV g] w fun e w'=>e= .returned (outS false 0)∧ ∃w1,Q w1∧Only [] w1 w':=by
 have MZ:=hid (XMem_c si m w hsi)
 have c3:w.cell? ⟨g,5,none⟩=some (.iface T (ptrV ub)):=hb.cell 5
 have c3d:w.drew.cell? ⟨g,5,none⟩=some (.iface T (ptrV ub)):=hb.cell 5
 have c0:w.cell? ⟨g,0,none⟩=some (ptrV si):=hb.cell 0
 have c30:w.cell? ⟨g,36,none⟩=some (.bool false):=by rw[←hd];exact hb.cell 36
 have d2:w.drew.cell? ⟨g,2,none⟩=some (.int .u64 x.lo):=hb.cell 2
 have d3:w.drew.cell? ⟨g,3,none⟩=some (.int .u64 x.hi):=hb.cell 3
 have d4:w.drew.cell? ⟨g,4,none⟩=some (.int .i64 x.limit):=hb.cell 4
 have a1:decide (x.limit<1)=false:=by simp only[decide_eq_false_iff_not];omega
 have a2:decide (256<x.limit)=false:=by simp only[decide_eq_false_iff_not];omega
 have a3:decide (x.hi<x.lo)=false:=by simp only[decide_eq_false_iff_not];omega
 have UZ:=hid (hU w.drew (Below.refl _ _).drew)
 have HQ:=hid hQ
 clear hb hsi hd hU hQ ha
 go_enter Tryz.func37,Tryz.ntmps37
 go_wp2_with fail
 refine MZ.out.mono ?_
 rintro e w1 ⟨rfl,rfl⟩
 go_upto_region 7 with fail
 go_region
 go_wp2_with fail
 refine UZ.out.mono ?_
 rintro e w2 ⟨rfl,hq⟩
 have k30:w2.drew.cell? ⟨g,36,none⟩=some (.bool false):=(HQ.out w2 hq).1
 have k31:w2.drew.cell? ⟨g,37,none⟩=some (.int .i64 0):=(HQ.out w2 hq).2
 have HH:=hid hq
 clear hq HQ UZ MZ c0 c3 c3d c30 d2 d3 d4 a1 a2 a3
 go_upto_region 9 with fail
 go_region
 go_wp2_with fail
 go_ret2
 exact⟨rfl,w2,HH.out,(Only.refl _ _).drew⟩
theorem SStep_over (F G:Nat) (rc cs:Array Value) (hd:x.done=false) (ha: ¬(x.limit<1∨256<x.limit∨x.hi<x.lo)) (w:World) (hb:ScBlk w g si x R (.iface T (ptrV ub)) (.func (.func G) rc cs)) (hsi:w.cell? ⟨si,0,none⟩=some (ptrV m))
  (hme: ∀W,(method 431 T (ptrV ub) "Step").run Tryz.prog W= .ok (F,ptrV ub) W) (hF: ∀args W,(callFunc F args).run Tryz.prog W= .ok (.enter F args) W) (hG: ∀args W,(callFunc G args).run Tryz.prog W= .ok (.enter G args) W)
  (E:Int) (Q:World→Prop) (hU: ∀W,Below w.heap.size w W→Calls Tryz.prog F #[ptrV ub] W fun e w1=>e= .returned (.tuple #[.bool true,.int .i64 E])∧Q w1)
  (hQ: ∀w1,Q w1→w1.cell? ⟨g,6,none⟩=some (.func (.func G) rc cs)) (Z:World→Prop) (d:Bool) (ec:Int)
  (hC: ∀w1,Q w1→Calls Tryz.prog G (rc++ #[.int .i64 E]++cs) w1 fun e w2=>e= .returned (.tuple #[])∧Z w2)
  (hZ: ∀w2,Z w2→w2.cell? ⟨g,36,none⟩=some (.bool d)∧w2.cell? ⟨g,37,none⟩=some (.int .i64 ec)):
  Calls Tryz.prog 37 #[ptrV g] w fun e w'=>e= .returned (outS d ec)∧ ∃w2,Z w2∧Only [] w2 w':=by
 have MZ:=hid (XMem_c si m w hsi)
 have c3:w.cell? ⟨g,5,none⟩=some (.iface T (ptrV ub)):=hb.cell 5
 have c3d:w.drew.cell? ⟨g,5,none⟩=some (.iface T (ptrV ub)):=hb.cell 5
 have c0:w.cell? ⟨g,0,none⟩=some (ptrV si):=hb.cell 0
 have c30:w.cell? ⟨g,36,none⟩=some (.bool false):=by rw[←hd];exact hb.cell 36
 have d2:w.drew.cell? ⟨g,2,none⟩=some (.int .u64 x.lo):=hb.cell 2
 have d3:w.drew.cell? ⟨g,3,none⟩=some (.int .u64 x.hi):=hb.cell 3
 have d4:w.drew.cell? ⟨g,4,none⟩=some (.int .i64 x.limit):=hb.cell 4
 have a1:decide (x.limit<1)=false:=by simp only[decide_eq_false_iff_not];omega
 have a2:decide (256<x.limit)=false:=by simp only[decide_eq_false_iff_not];omega
 have a3:decide (x.hi<x.lo)=false:=by simp only[decide_eq_false_iff_not];omega
 have UZ:=hid (hU w.drew (Below.refl _ _).drew)
 have HQ:=hid hQ
 have CZ:=hid hC
 have HZ:=hid hZ
 clear hb hsi hd hU hQ ha hC hZ
 go_enter Tryz.func37,Tryz.ntmps37
 go_wp2_with fail
 refine MZ.out.mono ?_
 rintro e w1 ⟨rfl,rfl⟩
 go_upto_region 7 with fail
 go_region
 go_wp2_with fail
 refine UZ.out.mono ?_
 rintro e w2 ⟨rfl,hq⟩
 have k4:=HQ.out w2 hq
 have HC:=hid (CZ.out w2 hq)
 clear hq HQ UZ MZ CZ c0 c3 c3d c30 d2 d3 d4 a1 a2 a3
 go_wp2_with fail
 refine HC.out.mono ?_
 rintro e w3 ⟨rfl,hz⟩
 have k30:w3.drew.cell? ⟨g,36,none⟩=some (.bool d):=(HZ.out w3 hz).1
 have k31:w3.drew.cell? ⟨g,37,none⟩=some (.int .i64 ec):=(HZ.out w3 hz).2
 have HH:=hid hz
 clear hz HZ HC k4
 go_upto_region 9 with fail
 go_region
 go_wp2_with fail
 go_ret2
 exact⟨rfl,w3,HH.out,(Only.refl _ _).drew⟩
end
end Go.Proofs.YtjmaicckkkdjpaaGreat
/- A step of a scan: what it needs, what it leaves. -/
namespace Go.Proofs.YtjmaicckkkdjpaaGreat
open Go.RowKit
structure ScOK (v:List Int) (x:ScP):Prop where
 live:x.done=false
 e:x.e=0
 arg: ¬(x.limit<1∨256<x.limit∨x.hi<x.lo)
 client:0≤x.client∧x.client≤64
 tries:x.tries<4611686018427387904
 pairs:(x.pairs.length:Int)≤x.limit
 walk: ∀y,x.u= .walk y→WkOK v y∧(y.next v).e=0∧((y.next v).over=true→((y.next v).phas=false→(y.next v).ph=0)∧(activeN (y.next v).pn (y.next v).ph (y.next v).phas).length≤8)
 read: ∀y,x.u= .read y→RdOK v y∧x.got.length<x.want.length∧x.want.length≤256
 still: ∀y,x.u= .still y→y.over=false∧(y.k=2∨y.k=3)∧inV v y.adr∧(0≤y.at'∧y.at'≤1099511627776)∧(0≤x.at'∧x.at'≤1099511627776)
 last: ∀l,x.u= .last l→l.over=false∧(0≤l.client∧l.client≤64)∧(∀a∈l.lines,inV v a)∧x.got.length≤x.want.length∧x.want.length≤256
def ScP.eff (x:ScP) (A:MA):MA:=match x.u with
 | .walk y=>y.eff A
 | .last l=>l.eff A
 | _=>A
def ScPost (si m g:Nat) (B:MB) (M:MemS) (K:Nat) (x:ScP) (f:List Nat) (w:World) (e:Ending) (w':World):Prop:=
 e= .returned (outS (x.next M.view).done (x.next M.view).e)∧ ∃M' f',MSt m B K w M w' M' (x.eff (absM M)) (g::f)∧ScIs w' si m g (x.next M.view) f'∧ ∀y∈f',y∈f∨(w.heap.size≤y∧y∉footM m B M')
section
variable {si m g:Nat} {B:MB} {K:Nat} {M M':MemS} {ta:MA} {x X:ScP} {R:SR} {u':ScU} {uv fv:Value} {w w1 w2 w':World} {us us' bs:List Nat} {e:Ending}
theorem sc_keep (hM:MSt m B K w M w1 M' ta us) (hbs: ∀z∈bs++R.bl,z∉us) (hg:g∉us++(bs++R.bl)) (hgm:g∉footM m B M) (fm: ∀y∈us++(bs++R.bl),y∉footM m B M)
  (hb:ScBlk w g si x R uv fv) (hr:ScRows w x.want x.got x.pairs R) (hsi:w.cell? ⟨si,0,none⟩=some (ptrV m)) (hsf:si∉us++(bs++R.bl)) (hsm:si∉footM m B M):
  ScBlk w1 g si x R uv fv∧ScRows w1 x.want x.got x.pairs R∧w1.cell? ⟨si,0,none⟩=some (ptrV m)∧(∀b∈bs,∀v,w.cell? ⟨b,0,none⟩=some v→w1.cell? ⟨b,0,none⟩=some v)∧(∀b∈bs,∀T cs,Blk w b T cs→Blk w1 b T cs):=by
 have nb: ∀b∈bs++R.bl,b∉us++footM m B M:=fun b h1 h2=>(List.mem_append.1 h2).elim (hbs b h1) (fm b (List.mem_append_right _ h1))
 have nb2: ∀b∈bs,b∉us++footM m B M:=fun b h=>nb b (List.mem_append_left _ h)
 refine⟨hM.only.blk hb ?_,hr.only hM.only (fun z hz=>nb z (List.mem_append_right _ hz)),(hM.only.cell (p:=⟨si,0,none⟩) (World.block_lt_of_cell? _ _ hsi) ?_).trans hsi,fun b h1 v h2=>(hM.only.cell (p:=⟨b,0,none⟩) (World.block_lt_of_cell? _ _ h2) (nb2 b h1)).trans h2,fun b h1 T cs h2=>hM.only.blk h2 (nb2 b h1)⟩
 ·intro h
  exact(List.mem_append.1 h).elim (fun h=>hg (by simp[h])) hgm
 ·intro h
  exact(List.mem_append.1 h).elim (fun h=>hsf (by simp[h])) hsm
theorem sc_stay (hM:MSt m B K w M w1 M' ta us) (hB:ScBlk w1 g si x R uv fv) (hR:ScRows w1 x.want x.got x.pairs R) (hat:u'.at w1 si m g x.leaf x.ky uv fv us' bs) (hus: ∀z∈us',z∈us∨(w.heap.size≤z∧z∉footM m B M')) (hbs: ∀z∈bs++R.bl,z∉us) (hbl: ∀z∈bs++R.bl,z<w.heap.size) (hbb: ∀z∈bs,z∉R.bl) (hg:g∉us++(bs++R.bl)) (hgl:g<w.heap.size) (ho:Only [] w1 w'):
  ∃M' f',MSt m B K w M w' M' ta (g::(us++(bs++R.bl)))∧ScIs w' si m g { x with u:=u' } f'∧ ∀y∈f',y∈us++(bs++R.bl)∨(w.heap.size≤y∧y∉footM m B M'):=by
 refine⟨M',us'++(bs++R.bl),(hM.mono (fun z hz=>by simp[hz])).turn ho (fun z hz=>by cases hz),⟨⟨R,uv,fv,us',bs,ho.blk hB (by simp),hat.only ho (by simp) (by simp),hR.only ho (by simp),rfl,fun z hz h=> ?_,hbb⟩,fun h=> ?_⟩,fun y hy=> ?_⟩
 ·rcases hus z h with h1 | h1
  ·exact hbs z hz h1
  ·have:=hbl z hz;have:=h1.1;omega
 ·rcases List.mem_append.1 h with h1 | h1
  ·rcases hus g h1 with h2 | h2
   ·exact hg (by simp[h2])
   ·have:=h2.1;omega
  ·exact hg (List.mem_append_right _ h1)
 ·rcases List.mem_append.1 hy with h1 | h1
  ·exact(hus y h1).imp (fun h=>by simp[h]) id
  ·exact Or.inl (List.mem_append_right _ h1)
theorem sc_go (hM:MSt m B K w M w1 M' ta us) (hgo:ScGo si m g R.bl X w1 e w2) (ho:Only [] w2 w') (hbl: ∀z∈bs++R.bl,z<w.heap.size) (fm: ∀y∈us++(bs++R.bl),y∉footM m B M) (hgl:g<w.heap.size) (hgm:g∉footM m B M):
  ∃M' f',MSt m B K w M w' M' ta (g::(us++(bs++R.bl)))∧ScIs w' si m g X f'∧ ∀y∈f',y∈us++(bs++R.bl)∨(w.heap.size≤y∧y∉footM m B M'):=by
 obtain⟨_,f',h1,h2,h3⟩:=hgo
 refine⟨M',f',((hM.mono (fun z hz=>by simp[hz])).turn h3 (fun z hz=> ?_)).turn ho (fun z hz=>by cases hz),h1.only ho (by simp) (by simp),fun y hy=>(h2 y hy).elim (fun h=>Or.inl (by simp[h])) (fun h=>Or.inr (hM.new h))⟩
 rcases List.mem_cons.1 hz with rfl | hz
 ·exact⟨Or.inl (by simp),hM.far hgl hgm⟩
 ·exact⟨Or.inl (by simp[hz]),hM.far (hbl z (List.mem_append_right _ hz)) (fm z (by simp[hz]))⟩
theorem sc_ans (hM:MSt m B K w M w1 M' ta us) (hat:X.u.at w1 si m g X.leaf X.ky uv fv us' bs) (hus: ∀z∈us',z∈us∨(w.heap.size≤z∧z∉footM m B M')) (hbs: ∀z∈bs++R.bl,z∉us) (hbl: ∀z∈bs++R.bl,z<w.heap.size) (hbb: ∀z∈bs,z∉R.bl) (fm: ∀y∈us++(bs++R.bl),y∉footM m B M) (hg:g∉us++(bs++R.bl)) (hgl:g<w.heap.size) (hgm:g∉footM m B M)
  (hul: ∀z∈us',z<w1.heap.size) (hA:ScAn si g R.bl x uv fv w1 e w2) (hX: ∀W R',ScBlk W g si x R' uv fv→ScBlk W g si X R' uv fv) (hw:X.want=x.want) (hgt:X.got=x.got) (hp:X.pairs=x.pairs) (ho:Only [] w2 w'):
  ∃M' f',MSt m B K w M w' M' ta (g::(us++(bs++R.bl)))∧ScIs w' si m g X f'∧ ∀y∈f',y∈us++(bs++R.bl)∨(w.heap.size≤y∧y∉footM m B M'):=by
 obtain⟨_,R',hB,hR,hn,hgr,h3⟩:=hA
 have hws:=hM.only.size
 have nb: ∀z∈us',z∉g::R.bl:=fun z hz h=>by
  rcases List.mem_cons.1 h with rfl | h
  ·rcases hus _ hz with h1 | h1
   ·exact hg (by simp[h1])
   ·have:=h1.1;omega
  ·rcases hus z hz with h1 | h1
   ·exact hbs z (List.mem_append_right _ h) h1
   ·have:=h1.1;have:=hbl z (List.mem_append_right _ h);omega
 have nb2: ∀z∈bs,z∉g::R.bl:=fun z hz h=>by
  rcases List.mem_cons.1 h with rfl | h
  ·exact hg (by simp[hz])
  ·exact hbb z hz h
 have hat':=(hat.only h3 nb nb2).only ho (by simp) (by simp)
 refine⟨M',us'++(bs++R'.bl),((hM.mono (fun z hz=>by simp[hz])).turn h3 (fun z hz=> ?_)).turn ho (fun z hz=>by cases hz),⟨⟨R',uv,fv,us',bs,ho.blk (hX _ _ hB) (by simp),hat',by rw[hw,hgt,hp];exact hR.only ho (by simp),rfl,fun z hz h=> ?_,fun z hz h=> ?_⟩,fun h=> ?_⟩,fun y hy=> ?_⟩
 ·rcases List.mem_cons.1 hz with rfl | hz
  ·exact⟨Or.inl (by simp),hM.far hgl hgm⟩
  ·exact⟨Or.inl (by simp[hz]),hM.far (hbl z (List.mem_append_right _ hz)) (fm z (by simp[hz]))⟩
 ·rcases List.mem_append.1 hz with h1 | h1
  ·rcases hus z h with h2 | h2
   ·exact hbs z (by simp[h1]) h2
   ·have:=hbl z (by simp[h1]);have:=h2.1;omega
  ·rcases hn z h1 with h2 | h2
   ·rcases hus z h with h4 | h4
    ·exact hbs z (by simp[h2]) h4
    ·have:=hbl z (by simp[h2]);have:=h4.1;omega
   ·have:=hul z h;omega
 ·rcases hn z h with h2 | h2
  ·exact hbb z hz h2
  ·have:=hbl z (by simp[hz]);omega
 ·rcases List.mem_append.1 h with h1 | h1
  ·exact nb g h1 (by simp)
  ·rcases List.mem_append.1 h1 with h1 | h1
   ·exact nb2 g h1 (by simp)
   ·exact hgr h1
 ·rcases List.mem_append.1 hy with h1 | h1
  ·exact(hus y h1).imp (fun h=>by simp[h]) id
  ·rcases List.mem_append.1 h1 with h1 | h1
   ·exact Or.inl (by simp[h1])
   ·exact(hn y h1).imp (fun h=>by simp[h]) (fun h=>hM.new h)
end
end Go.Proofs.YtjmaicckkkdjpaaGreat
