import Derived.Test.YtjmaicckkkdjpaaGreatF06
import Derived.Test.YtjmaicckkkdjpaaGreatF35
import Derived.Maps.AppendAt
import Derived.Deep.AppendLies
/- Methods of a row of addresses, called by way of an interface. -/
set_option maxRecDepth 100000
set_option maxHeartbeats 2000000
set_option linter.unusedVariables false
set_option linter.unusedSimpArgs false
namespace Go.Proofs.YtjmaicckkkdjpaaGreat
open Go.RowKit
theorem meth_own {P:Program} {t n f:Nat} {name:String} (hn:P.types.size+Made.depth=n+1) (h:(P.info? t).bind (fun i=>(i.methods.find? (·.name==name)).map fun m=>(m.path.isEmpty,m.func))=some (true,some (f,true))) {e:TypeId} (hu:P.underlying t=some (.pointer e)) (v:Value) (w:World):
  (method (n+1) t v name).run P w= .ok (f,v) w:=by
 cases hi:P.info? t with
 | none=>rw[hi] at h;cases h
 | some i=>
  rw[hi] at h
  simp only[Option.bind_some] at h
  cases hm:i.methods.find? (·.name==name) with
  | none=>rw[hm] at h;cases h
  | some m=>
   rw[hm] at h
   simp only[Option.map_some,Option.some.injEq,Prod.mk.injEq] at h
   obtain⟨h1,h2⟩:=h
   have hp:m.path= #[]:=by simpa using h1
   have hti: ∀w,(typeInfo t).run P w= .ok i w:=fun w=>by simp[typeInfo,program,Sem.run,hi]
   have hund:=fun w=>run_underlying hu w
   unfold method
   simp only[Sem.run_bind,hti,Result.andThen_ok,hm,hp,h2,Sem.run_pure,follow]
   simp[receiverAt,hund,Place.get]
theorem meth_load {P:Program} {t n f:Nat} {name:String} (hn:P.types.size+Made.depth=n+1) (h:(P.info? t).bind (fun i=>(i.methods.find? (·.name==name)).map fun m=>(m.path.isEmpty,m.func))=some (true,some (f,false))) {e:TypeId} (hu:P.underlying t=some (.pointer e)) (a:Addr) (v:Value) (w:World) (hl:(loadVar e a).run P w= .ok v w):
  (method (n+1) t (.pointer (some a)) name).run P w= .ok (f,v) w:=by
 cases hi:P.info? t with
 | none=>rw[hi] at h;cases h
 | some i=>
  rw[hi] at h
  simp only[Option.bind_some] at h
  cases hm:i.methods.find? (·.name==name) with
  | none=>rw[hm] at h;cases h
  | some m=>
   rw[hm] at h
   simp only[Option.map_some,Option.some.injEq,Prod.mk.injEq] at h
   obtain⟨h1,h2⟩:=h
   have hp:m.path= #[]:=by simpa using h1
   have hti: ∀w,(typeInfo t).run P w= .ok i w:=fun w=>by simp[typeInfo,program,Sem.run,hi]
   have hund:=fun w=>run_underlying hu w
   unfold method
   simp only[Sem.run_bind,hti,Result.andThen_ok,hm,hp,h2,Sem.run_pure,follow]
   have hw: ∀s:String,Builtin.ssaWrapNilChk_ #[t] t #[.pointer (some a),strVal "",strVal s]=pure (.pointer (some a)):=fun s=>rfl
   simp only[receiverAt,hund,Place.get,hw,Sem.run_bind,Sem.run_pure,Result.andThen_ok]
   have ha: ∀w,(asAddr (.pointer (some a))).run P w= .ok a w:=fun w=>rfl
   simp[ha,hl]
theorem fuel_eq:Tryz.prog.types.size+Made.depth=431:=by kernel_rfl
theorem aLoad (f:Nat) (p:Option Addr) (n cap:Nat) (w:World) (hf:w.cell? ⟨f,0,none⟩=some (.slice p n cap)):(loadVar 245 ⟨f,0,none⟩).run Tryz.prog w= .ok (.slice p n cap) w:=by
 unfold loadVar isAgg
 simp[run_underlying Tryz.underlying245,load,hf,go_sem,Sem.run]
theorem mPush (v:Value) (w:World):(method 431 252 v "Push").run Tryz.prog w= .ok (233,v) w:=meth_own fuel_eq (by kernel_rfl) Tryz.underlying252 v w
theorem mPop (v:Value) (w:World):(method 431 252 v "Pop").run Tryz.prog w= .ok (232,v) w:=meth_own fuel_eq (by kernel_rfl) Tryz.underlying252 v w
theorem mLen (f:Nat) (p:Option Addr) (n cap:Nat) (w:World) (hf:w.cell? ⟨f,0,none⟩=some (.slice p n cap)):(method 431 252 (.pointer (some ⟨f,0,none⟩)) "Len").run Tryz.prog w= .ok (175,.slice p n cap) w:=meth_load fuel_eq (by kernel_rfl) Tryz.underlying252 _ _ w (aLoad f p n cap w hf)
theorem mLess (f:Nat) (p:Option Addr) (n cap:Nat) (w:World) (hf:w.cell? ⟨f,0,none⟩=some (.slice p n cap)):(method 431 252 (.pointer (some ⟨f,0,none⟩)) "Less").run Tryz.prog w= .ok (230,.slice p n cap) w:=meth_load fuel_eq (by kernel_rfl) Tryz.underlying252 _ _ w (aLoad f p n cap w hf)
theorem mSwap (f:Nat) (p:Option Addr) (n cap:Nat) (w:World) (hf:w.cell? ⟨f,0,none⟩=some (.slice p n cap)):(method 431 252 (.pointer (some ⟨f,0,none⟩)) "Swap").run Tryz.prog w= .ok (231,.slice p n cap) w:=meth_load fuel_eq (by kernel_rfl) Tryz.underlying252 _ _ w (aLoad f p n cap w hf)
def swapL (xs:List Int) (i j:Nat):List Int:=(xs.set i (at0 xs j)).set j (at0 xs i)
def upF:Nat→List Int→Nat→List Int
 | 0,xs,_=>xs
 | f+1,xs,j=>if j=0 then xs else if at0 xs j<at0 xs ((j-1)/2) then upF f (swapL xs ((j-1)/2) j) ((j-1)/2) else xs
theorem at0_some {xs:List Int} {i:Nat} (h:i<xs.length):xs[i]?=some (at0 xs i):=by simp[at0,h]
theorem swapL_length (xs:List Int) (i j:Nat):(swapL xs i j).length=xs.length:=by simp[swapL]
theorem up_z (f g cap:Nat) (xs:List Int) (j0:Nat) (hj:j0<xs.length) (hx:xs.length≤1000000) (hfg:f≠g) (w:World) (hf:w.cell? ⟨f,0,none⟩=some (.slice (some ⟨g,0,none⟩) xs.length cap)) (hfl:f<w.heap.size) (h:AddrRow w g cap xs):
  Calls Tryz.prog 174 #[.iface 252 (.pointer (some ⟨f,0,none⟩)),.int .i64 (j0:Int)] w fun e w'=>(∃v,e= .returned v)∧AddrRow w' g cap (upF xs.length xs j0)∧Only [g] w w':=by
 obtain⟨n,hn⟩: ∃n,n=xs.length:=⟨_,rfl⟩
 rw[←hn] at hf hj hx ⊢
 have HN:=hid hn
 have HF:=hid hf
 have H:=hid h
 clear hn hf h
 go_enter Tryz.func174,Tryz.ntmps174
 go_wp2
 go_loopw [1] (fun i wr=> ∃(k fu:Nat) (ys:List Int),k<n∧k≤fu∧i= .int .i64 k∧ys.length=n∧Hid (AddrRow wr g cap ys)∧Hid (Only [g] w wr)∧Hid (upF fu ys k=upF n xs j0)) (fun i _=>(intOf i).toNat)
 case atStart=>exact⟨j0,n,xs,hj,by omega,rfl,HN.out.symm,H.out,Only.refl _ _,rfl⟩
 case round=>
  obtain⟨k,fu,ys,hk,hfu,rfl,hyl,hR,hO,hU⟩:=hrel
  have yf:wr.cell? ⟨f,0,none⟩=some (.slice (some ⟨g,0,none⟩) n cap):=(hO.out.cell (p:=⟨f,0,none⟩) hfl (by simpa using hfg)).trans HF.out
  have HYL:=hid hyl
  clear hyl
  by_cases hk0:k=0
  ·subst hk0
   have hz:Hid (ys=upF n xs j0):=by
    show ys=upF n xs j0
    have:=hU.out
    cases fu with
    | zero=>exact this
    | succ fu=>simpa[upF] using this
   go_wp2
   go_end0
   rw[hz.out] at hR
   first | exact⟨⟨_,rfl⟩,hR.out,hO.out⟩ | exact⟨hR.out,hO.out⟩
  ·obtain⟨i,hi⟩: ∃i,i=(k-1)/2:=⟨_,rfl⟩
   have hi2:((k:Int)-1).tdiv 2=(i:Int):=by
    obtain⟨q,rfl⟩: ∃q,k=q+1:=⟨k-1,by omega⟩
    rw[show((q+1:Nat):Int)-1=(q:Int) by simp,Int.tdiv_eq_ediv_of_nonneg (by omega)]
    omega
   have hi3:((k:Int)-1)/2=(i:Int):=by omega
   have hne:((i:Int)==(k:Int))=false:=by simp;omega
   have hik:i<k:=by omega
   have HI:=hid hi
   have mL:=mLess f _ n cap wr yf
   have j1:(1:Int)≤(k:Int):=by omega
   clear hi
   obtain⟨a,ha⟩: ∃a,a=at0 ys k:=⟨_,rfl⟩
   obtain⟨b,hb⟩: ∃b,b=at0 ys i:=⟨_,rfl⟩
   have hL:=aLess_z g cap ys k i a b (by rw[ha];exact at0_some (by rw[HYL.out];exact hk)) (by rw[hb];exact at0_some (by rw[HYL.out];omega)) wr hR.out
   rw[HYL.out] at hL
   have HL:=hid hL
   have HA:=hid ha
   have HB:=hid hb
   clear hL ha hb
   go_wp2_with fail
   refine HL.out.mono ?_
   rintro e w2 ⟨rfl,hb2⟩
   have R2:Hid (AddrRow w2 g cap ys):=hR.out.only (Only.of_below hb2 []) (by simp)
   have O2:Hid (Only [g] w w2):=hO.out.trans (Only.of_below hb2 []) (fun x hx=>by cases hx)
   have yf2:w2.cell? ⟨f,0,none⟩=some (.slice (some ⟨g,0,none⟩) n cap):=ck yf hb2
   have mS:=mSwap f _ n cap w2 yf2
   clear hb2 yf mL hO hR
   obtain⟨fu,rfl⟩: ∃fu',fu=fu'+1:=⟨fu-1,by omega⟩
   by_cases hab:a<b
   ·have hS:=aSwap_z g cap ys i k b a (by rw[HB.out];exact at0_some (by rw[HYL.out];omega)) (by rw[HA.out];exact at0_some (by rw[HYL.out];exact hk)) w2 R2.out
    rw[HYL.out] at hS
    have HS:=hid hS
    clear hS
    rw[decide_eq_true hab]
    go_wp2_with fail
    refine HS.out.mono ?_
    rintro e w3 ⟨⟨v,rfl⟩,hR3,hO3⟩
    have R3:=hid hR3
    have O3:=hid (O2.out.trans hO3 (fun x hx=>Or.inl hx))
    have HU3:Hid (upF fu ((ys.set i a).set k b) i=upF n xs j0):=by
     show upF fu ((ys.set i a).set k b) i=upF n xs j0
     have:=hU.out
     simp only[upF] at this
     rw[if_neg hk0,←HI.out,←HA.out,←HB.out,if_pos hab] at this
     rw[←this]
     unfold swapL
     rw[←HA.out,←HB.out]
    clear hR3 hO3 mS yf2
    go_wp2
    go_roundw
    case rel=>exact⟨i,fu,_,by omega,by omega,rfl,by simp[HYL.out],R3.out,O3.out,HU3.out⟩
    case measure=>simp[intOf];omega
   ·have hz:Hid (ys=upF n xs j0):=by
     show ys=upF n xs j0
     have:=hU.out
     simp only[upF] at this
     rw[if_neg hk0,←HI.out,←HA.out,←HB.out,if_neg hab] at this
     exact this
    rw[decide_eq_false hab]
    go_wp2
    go_end0
    have R3:=R2.out
    rw[hz.out] at R3
    first | exact⟨⟨_,rfl⟩,R3,O2.out⟩ | exact⟨R3,O2.out⟩
structure KeyF (X:Prop):Prop where
 out:X
theorem shareF {X G:Prop} (main:KeyF X→G) (key:X):G:=main ⟨key⟩
structure FreeRow (w:World) (f:Nat) (v:Value) (xs:List Int):Prop where
 blk: ∃t,Blk w f t #[v]
 row:w.ownsRow 0 62 1 v xs.length (xs.map fun x=>Value.int .u64 x)
 far:v.ownBlock≠some f
theorem aPush_z (f:Nat) (v:Value) (xs:List Int) (x:Int) (hx:xs.length≤1000000) (w:World) (h:FreeRow w f v xs):
  Calls Tryz.prog 233 #[.pointer (some ⟨f,0,none⟩),.iface 62 (.int .u64 x)] w fun e w'=>(∃r,e= .returned r)∧ ∃v',FreeRow w' f v' (xs++[x])∧Only (f::v.ownBlock.toList) w w'∧(v'.ownBlock=v.ownBlock∨ ∃g,v'.ownBlock=some g∧w.heap.size≤g):=by
 obtain⟨t,hb⟩:=h.blk
 have hinfo:(Tryz.prog.info? 62).map (fun i=>(i.zero,i.size,i.bytes))=some (some (.int .u64 0),1,8):=by kernel_rfl
 obtain⟨i0,hi0,hz0,hz1,hz2⟩:=info_parts hinfo
 obtain⟨v',w9,hrun,hown9,hgr9,hnil9,hob9⟩:=run_append_own_at (P:=Tryz.prog) ((w.alloc (.cells #[.int .u64 x] 62)).drew) 0 245 245 62 i0 (.int .u64 0) 1 8 Tryz.underlying245 hi0 hz0 hz1 hz2 rfl (by decide) _ _ _ (h.row.alloc (.cells #[.int .u64 x] 62)) ⟨w.heap.size,0,none⟩ 1 1 [.int .u64 x] rfl (World.news_of_block (Blk.new w 62 #[.int .u64 x])) (by simp[Value.oneCell']) (by unfold maxLen;omega) (by omega) (by simp)
 have HRUN:=hid hrun
 clear hrun hnil9
 obtain⟨va,vn,vc,rfl⟩: ∃a n c,v'= .slice a n c:=by
  rcases hown9.2 with⟨h1,_⟩ | ⟨g,cap,cur,h1,_⟩
  ·exact⟨_,_,_,h1⟩
  ·exact⟨_,_,_,h1⟩
 have hb9:Blk w9 f t #[v]:=((hb.alloc (.cells #[.int .u64 x] 62)).drew).grown hgr9 (fun e=>h.far e.symm)
 have hta: ∀w',(Instr.typeAssert (.iface 62 (.int .u64 x)) 20 62 false).run Tryz.prog w'=Result.ok (.int .u64 x) w':=fun w'=>by simp[Instr.typeAssert,run_underlying Tryz.underlying62]
 have y0:w.drew.cell? ⟨f,0,none⟩=some v:=hb.cell 0
 have y1:(w.alloc (.cells #[.int .u64 x] 62)).drew.cell? ⟨f,0,none⟩=some v:=(hb.alloc _).cell 0
 have y9:w9.cell? ⟨f,0,none⟩=some v:=hb9.cell 0
 have y9f:=hb9.frozen 0
 have HO:=hid hown9
 have HG:=hid hgr9
 have HB9:=hid hb9
 have HOB:=hid hob9
 have H:=hid h
 clear hown9 hgr9 hb9 hob9 h hb hi0 hz0 hz1 hz2 hinfo
 go_enter Tryz.func233,Tryz.ntmps233
 go_wp2
 refine shareF (X:= ?X) (fun key=> ?_) ?_
 rotate_left
 ·go_region_law (refine step_append_runI rfl (.tmp 7) (.tmp 10) 245 245 rfl _ _ (by simp[Act.eval,Act.put]) (by simp[Act.eval,Act.put]) HRUN.out ?_)
  all_goals
   try go_simp
   try simp only[Act.put,List.setIfInBounds_toArray,List.set_cons_zero,List.set_cons_succ]
   exact key.out
 go_end0
 have hfl:f<w.heap.size:=by obtain⟨t,hb⟩:=H.out.blk;exact hb.lt
 have hne:(Value.slice va vn vc).ownBlock≠some f:=by
  rcases HOB.out with h | h
  ·rw[h];exact H.out.far
  ·rw[h];intro e;injection e with e;simp at e;omega
 have h1:Only (f::v.ownBlock.toList) w w9:=((Only.refl _ w).alloc _).drew.trans (Only.of_grown (f:=f::v.ownBlock.toList) HG.out (fun k hk=>by simp[hk])) (fun y hy=>Or.inl hy)
 refine⟨⟨_,rfl⟩,.slice va vn vc,⟨⟨t,HB9.out.set_ 0 _⟩,?_,hne⟩,h1.setCell (Or.inl (by simp)) _,?_⟩
 ·have h2:=((Only.refl [f] w9).setCell (p:=⟨f,0,none⟩) (Or.inl (by simp)) (.slice va vn vc)).own HO.out (fun k hk hc=>by simp at hc;subst hc;exact hne hk)
  simpa using h2
 ·rcases HOB.out with h | h
  ·exact Or.inl h
  ·exact Or.inr ⟨_,h,by simp⟩
theorem upF_length: ∀(f:Nat) (xs:List Int) (j:Nat),(upF f xs j).length=xs.length
 | 0,xs,j=>rfl
 | f+1,xs,j=>by
  unfold upF
  split
  ·rfl
  ·split
   ·rw[upF_length f,swapL_length]
   ·rfl
theorem FreeRow.some_ {w:World} {f:Nat} {v:Value} {xs:List Int} (h:FreeRow w f v xs) (hx:xs≠[]): ∃g cap,v= .slice (some ⟨g,0,none⟩) xs.length cap∧AddrRow w g cap xs∧f≠g:=by
 obtain⟨_,h1 | ⟨g,cap,h1,_,h2⟩⟩:=AddrRow.of_own h.row
 ·exact absurd h1.2 hx
 ·refine⟨g,cap,h1,h2,fun e=>h.far ?_⟩
  rw[h1,e];rfl
theorem hPush_z (f:Nat) (v:Value) (xs:List Int) (x:Int) (hx:xs.length≤100000) (w:World) (h:FreeRow w f v xs):
  Calls Tryz.prog 169 #[.iface 252 (.pointer (some ⟨f,0,none⟩)),.iface 62 (.int .u64 x)] w fun e w'=>(∃r,e= .returned r)∧ ∃v',FreeRow w' f v' (upF (xs.length+1) (xs++[x]) xs.length)∧Only (f::v.ownBlock.toList) w w'∧(v'.ownBlock=v.ownBlock∨ ∃g,v'.ownBlock=some g∧w.heap.size≤g):=by
 have mP:=mPush (.pointer (some ⟨f,0,none⟩)) w
 obtain⟨n,hn⟩: ∃n,n=xs.length:=⟨_,rfl⟩
 rw[←hn] at hx ⊢
 have HN:=hid hn
 have H:=hid h
 clear hn h
 go_enter Tryz.func169,Tryz.ntmps169
 go_wp2_with fail
 refine(aPush_z f v xs x (by have:=HN.out;omega) w H.out).mono ?_
 rintro e w1 ⟨⟨r,rfl⟩,v',h1,hO,hob⟩
 obtain⟨g,cap,hv,hA,hfg⟩:=h1.some_ (by simp)
 have hl:(xs++[x]).length=n+1:=by rw[List.length_append,←HN.out];rfl
 rw[hl] at hv
 obtain⟨t,hb⟩:=h1.blk
 have y1:w1.cell? ⟨f,0,none⟩=some (.slice (some ⟨g,0,none⟩) (n+1) cap):=by rw[←hv];exact hb.cell 0
 have mL:=mLen f _ (n+1) cap w1 y1
 have HA:=hid hA
 have HB:=hid hb
 have HO:=hid hO
 have HOB:=hid hob
 have H1:=hid h1
 have HV:=hid hv
 have hfl:=hb.lt
 clear hA hb hO hob h1 hv mP
 go_wp2_with fail
 refine(aLen_z (some ⟨g,0,none⟩) (n+1) cap w1).mono ?_
 rintro e w2 ⟨rfl,rfl⟩
 have hU:=up_z f g cap (xs++[x]) n (by rw[hl];omega) (by rw[hl];omega) hfg w1 (by rw[hl];exact y1) hfl HA.out
 have HU:=hid hU
 have HL:=hid hl
 clear hU hl
 go_wp2_with fail
 refine HU.out.mono ?_
 rintro e w3 ⟨⟨r3,rfl⟩,hA3,hO3⟩
 have H3:=hid (⟨hA3,hO3⟩:_∧_)
 clear hA3 hO3 mL y1
 go_wp2
 go_end0
 have hA3:=H3.out.1
 rw[HL.out] at hA3
 have hlen:(upF (n+1) (xs++[x]) n).length=n+1:=by rw[upF_length,HL.out]
 have hown:=hA3.own
 refine⟨⟨_,rfl⟩,v',⟨⟨t,H3.out.2.blk HB.out (by simpa using hfg)⟩,?_,H1.out.far⟩,?_,HOB.out⟩
 ·rw[hlen] at hown ⊢
  rw[HV.out];exact hown
 ·refine HO.out.trans H3.out.2 (fun y hy=> ?_)
  simp at hy;subst hy
  rcases HOB.out with h | ⟨g',h,hg'⟩
  ·refine Or.inl ?_
   rw[HV.out] at h
   have:v.ownBlock=some y:=h.symm
   simp[this]
  ·rw[HV.out] at h
   have:y=g':=by simpa[Value.ownBlock] using h
   exact Or.inr (by omega)
theorem FreeRow.form {w:World} {f:Nat} {v:Value} {xs:List Int} (h:FreeRow w f v xs): ∃p cap,v= .slice p xs.length cap:=by
 rcases h.row.2 with⟨h1,h2⟩ | ⟨g,cap,cur,h1,_⟩
 ·exact⟨none,0,by rw[h1];simp at h2;rw[h2];rfl⟩
 ·exact⟨_,_,h1⟩
theorem FLen_z (f:Nat) (v:Value) (xs:List Int) (w:World) (h:FreeRow w f v xs):Calls Tryz.prog 144 #[.pointer (some ⟨f,0,none⟩)] w fun e w'=>e= .returned (.int .i64 (xs.length:Int))∧w=w':=by
 obtain⟨t,hb⟩:=h.blk
 obtain⟨p,cap,hv⟩:=h.form
 obtain⟨n,hn⟩: ∃n,n=xs.length:=⟨_,rfl⟩
 rw[←hn] at hv ⊢
 have y0:w.cell? ⟨f,0,none⟩=some (.slice p n cap):=by rw[←hv];exact hb.cell 0
 clear hb hv hn h
 go_enter Tryz.func144,Tryz.ntmps144
 go_wp2_with fail
 refine(aLen_z p n cap w).mono ?_
 rintro e w1 ⟨rfl,rfl⟩
 go_wp2
 go_ret
 exact⟨rfl,rfl⟩
theorem aPop_z (f g cap:Nat) (t:TypeId) (xs:List Int) (x:Int) (hfg:f≠g) (w:World) (hb:Blk w f t #[.slice (some ⟨g,0,none⟩) (xs.length+1) cap]) (h:AddrRow w g cap (xs++[x])) (hx:xs.length≤1000000):
  Calls Tryz.prog 232 #[.pointer (some ⟨f,0,none⟩)] w fun e w'=>e= .returned (.iface 62 (.int .u64 x))∧Blk w' f t #[.slice (some ⟨g,0,none⟩) xs.length cap]∧AddrRow w' g cap xs∧Only [f] w w':=by
 obtain⟨n,hn⟩: ∃n,n=xs.length:=⟨_,rfl⟩
 rw[←hn] at hb hx ⊢
 have y0:w.cell? ⟨f,0,none⟩=some (.slice (some ⟨g,0,none⟩) (n+1) cap):=hb.cell 0
 have y0f:=hb.frozen 0
 have y1:w.cell? ⟨g,n,none⟩=some (.int .u64 x):=h.cell (by rw[hn];simp)
 have hcap:n+1≤cap:=by obtain⟨cur,_,h2,_⟩:=h;simp at h2;omega
 have i1:(0:Int)≤(n:Int):=by omega
 have i2:(n:Int)< (n:Int)+1:=by omega
 have i3:(n:Int)≤(cap:Int):=by omega
 have i4:n≤cap:=by omega
 have HB:=hid hb
 have H:=hid h
 clear hb h hn
 go_enter Tryz.func232,Tryz.ntmps232
 go_wp2
 go_ret
 refine⟨rfl,HB.out.set_ 0 _,?_,(Only.refl _ _).setCell (Or.inl (by simp)) _⟩
 have h1:AddrRow w g cap xs:=by
  obtain⟨cur,h1,h2,h3,h4⟩:=H.out
  exact⟨cur,h1,by simp at h2;omega,h3,fun i y hy=>h4 i y (by rw[List.getElem?_append_left (List.getElem?_eq_some_iff.1 hy).1];exact hy)⟩
 exact h1.only ((Only.refl [f] w).setCell (Or.inl (by simp)) _) (by simpa using hfg.symm)
def pickD (xs:List Int) (n i:Nat):Nat:=if 2*i+2<n∧at0 xs (2*i+2)<at0 xs (2*i+1) then 2*i+2 else 2*i+1
def downF:Nat→List Int→Nat→Nat→List Int×Nat
 | 0,xs,_,i=>(xs,i)
 | f+1,xs,n,i=>if n≤2*i+1 then(xs,i) else if at0 xs (pickD xs n i)<at0 xs i then downF f (swapL xs i (pickD xs n i)) n (pickD xs n i) else(xs,i)
theorem pickD_lt {xs:List Int} {n i:Nat} (h: ¬n≤2*i+1):pickD xs n i<n∧i<pickD xs n i:=by
 unfold pickD
 split<;>omega
theorem downF_length: ∀(f:Nat) (xs:List Int) (n i:Nat),(downF f xs n i).1.length=xs.length
 | 0,_,_,_=>rfl
 | f+1,xs,n,i=>by
  simp only[downF]
  split
  ·rfl
  ·split
   ·rw[downF_length f,swapL_length]
   ·rfl
theorem down_z (f g cap n:Nat) (xs:List Int) (i0:Nat) (hi0:i0≤n) (hn:n≤xs.length) (hx:xs.length≤1000000) (hfg:f≠g) (w:World) (hf:w.cell? ⟨f,0,none⟩=some (.slice (some ⟨g,0,none⟩) xs.length cap)) (hfl:f<w.heap.size) (h:AddrRow w g cap xs):
  Calls Tryz.prog 173 #[.iface 252 (.pointer (some ⟨f,0,none⟩)),.int .i64 (i0:Int),.int .i64 (n:Int)] w fun e w'=>e= .returned (.bool (decide (i0< (downF n xs n i0).2)))∧AddrRow w' g cap (downF n xs n i0).1∧Only [g] w w':=by
 obtain⟨m,hm⟩: ∃m,m=xs.length:=⟨_,rfl⟩
 rw[←hm] at hf hn hx
 have HM:=hid hm
 have HF:=hid hf
 have H:=hid h
 clear hm hf h
 go_enter Tryz.func173,Tryz.ntmps173
 go_wp2
 go_loopw [7] (fun i wr=> ∃(k fu:Nat) (ys:List Int),k≤n∧n≤k+fu∧i= .int .i64 k∧ys.length=m∧Hid (AddrRow wr g cap ys)∧Hid (Only [g] w wr)∧Hid (downF fu ys n k=downF n xs n i0)) (fun i _=>n- (intOf i).toNat)
 case atStart=>exact⟨i0,n,xs,hi0,by omega,rfl,HM.out.symm,H.out,Only.refl _ _,rfl⟩
 case round=>
  obtain⟨k,fu,ys,hk,hfu,rfl,hyl,hR,hO,hU⟩:=hrel
  have yf:wr.cell? ⟨f,0,none⟩=some (.slice (some ⟨g,0,none⟩) m cap):=(hO.out.cell (p:=⟨f,0,none⟩) hfl (by simpa using hfg)).trans HF.out
  have HYL:=hid hyl
  clear hyl
  by_cases hk0:n≤2*k+1
  ·have hz:Hid ((ys,k)=downF n xs n i0):=by
    show(ys,k)=downF n xs n i0
    have:=hU.out
    cases fu with
    | zero=>exact this
    | succ fu=>simpa[downF,hk0] using this
   have t1:decide ((n:Int)≤2*(k:Int)+1)=true:=by simp;omega
   go_wp2
   go_ret
   have R9:=hR.out
   have z1:(downF n xs n i0).1=ys:=by rw[←hz.out]
   have z2:(downF n xs n i0).2=k:=by rw[←hz.out]
   rw[z1,z2]
   exact⟨rfl,R9,hO.out⟩
  ·obtain⟨fu,rfl⟩: ∃fu',fu=fu'+1:=⟨fu-1,by omega⟩
   have t1:decide ((n:Int)≤2*(k:Int)+1)=false:=by simp;omega
   have t2:decide (2*(k:Int)+1<0)=false:=by simp;omega
   obtain⟨a,ha⟩: ∃a,a=at0 ys k:=⟨_,rfl⟩
   have HA:=hid ha
   clear ha
   have e1:((2*k+1:Nat):Int)=2*(k:Int)+1:=by omega
   have e2:((2*k+2:Nat):Int)=2*(k:Int)+1+1:=by omega
   by_cases h2:2*k+2<n
   ·have t3:decide (2*(k:Int)+1+1< (n:Int))=true:=by simp;omega
    have mL:=mLess f _ m cap wr yf
    obtain⟨c,hc⟩: ∃c,c=at0 ys (2*k+2):=⟨_,rfl⟩
    obtain⟨d,hd⟩: ∃d,d=at0 ys (2*k+1):=⟨_,rfl⟩
    have hL:=aLess_z g cap ys (2*k+2) (2*k+1) c d (by rw[hc];exact at0_some (by rw[HYL.out];omega)) (by rw[hd];exact at0_some (by rw[HYL.out];omega)) wr hR.out
    rw[HYL.out,e1,e2] at hL
    have HL:=hid hL
    have HC:=hid hc
    have HD:=hid hd
    clear hL hc hd
    go_wp2_with fail
    refine HL.out.mono ?_
    rintro e w2 ⟨rfl,hb2⟩
    have R2:Hid (AddrRow w2 g cap ys):=hR.out.only (Only.of_below hb2 []) (by simp)
    have O2:Hid (Only [g] w w2):=hO.out.trans (Only.of_below hb2 []) (fun x hx=>by cases hx)
    have yf2:w2.cell? ⟨f,0,none⟩=some (.slice (some ⟨g,0,none⟩) m cap):=ck yf hb2
    clear hb2 mL yf hO hR
    by_cases hcd:c<d
    ·have HPK:Hid (pickD ys n k=2*k+2):=by
      show pickD ys n k=2*k+2
      unfold pickD
      rw[←HC.out,←HD.out,if_pos ⟨h2,hcd⟩]
     rw[decide_eq_true hcd]
     have mL2:=mLess f _ m cap w2 yf2
     have mS2:=mSwap f _ m cap w2 yf2
     obtain⟨b,hb⟩: ∃b,b=at0 ys (2*k+2):=⟨_,rfl⟩
     have hL2:=aLess_z g cap ys (2*k+2) k b a (by rw[hb];exact at0_some (by rw[HYL.out];omega)) (by rw[HA.out];exact at0_some (by rw[HYL.out];omega)) w2 R2.out
     rw[HYL.out] at hL2
     have HL2:=hid hL2
     have HB:=hid hb
     clear hL2 hb
     by_cases hab:b<a
     ·rw[decide_eq_true hab] at HL2
      rw[e2] at HL2
      go_wp2_with fail
      refine HL2.out.mono ?_
      rintro e w5 ⟨rfl,hb5⟩
      have R5:Hid (AddrRow w5 g cap ys):=R2.out.only (Only.of_below hb5 []) (by simp)
      have O5:Hid (Only [g] w w5):=O2.out.trans (Only.of_below hb5 []) (fun x hx=>by cases hx)
      have yf5:w5.cell? ⟨f,0,none⟩=some (.slice (some ⟨g,0,none⟩) m cap):=ck yf2 hb5
      have mS5:=mSwap f _ m cap w5 yf5
      clear hb5 mL2 mS2
      have hS:=aSwap_z g cap ys k (2*k+2) a b (by rw[HA.out];exact at0_some (by rw[HYL.out];omega)) (by rw[HB.out];exact at0_some (by rw[HYL.out];omega)) w5 R5.out
      rw[HYL.out] at hS
      have HS:=hid hS
      clear hS
      go_wp2_with fail
      refine HS.out.mono ?_
      rintro e w6 ⟨⟨v,rfl⟩,hR6,hO6⟩
      have R6:=hid hR6
      have O6:=hid (O5.out.trans hO6 (fun x hx=>Or.inl hx))
      have HU6:Hid (downF fu ((ys.set k b).set (2*k+2) a) n (2*k+2)=downF n xs n i0):=by
       show downF fu ((ys.set k b).set (2*k+2) a) n (2*k+2)=downF n xs n i0
       have:=hU.out
       simp only[downF] at this
       rw[if_neg hk0,HPK.out,←HA.out,←HB.out,if_pos hab] at this
       rw[←this]
       unfold swapL
       rw[←HA.out,←HB.out]
      clear hR6 hO6 mS5 yf5
      go_wp2
      go_roundw
      case rel=>exact⟨2*k+2,fu,_,by omega,by omega,by first | (simp;omega) | simp,by simp[HYL.out],R6.out,O6.out,HU6.out⟩
      case measure=>simp[intOf];omega
     ·rw[decide_eq_false hab] at HL2
      have hz:Hid ((ys,k)=downF n xs n i0):=by
       show(ys,k)=downF n xs n i0
       have:=hU.out
       simp only[downF] at this
       rw[if_neg hk0,HPK.out,←HA.out,←HB.out,if_neg hab] at this
       exact this
      rw[e2] at HL2
      go_wp2_with fail
      refine HL2.out.mono ?_
      rintro e w5 ⟨rfl,hb5⟩
      have R5:Hid (AddrRow w5 g cap ys):=R2.out.only (Only.of_below hb5 []) (by simp)
      have O5:Hid (Only [g] w w5):=O2.out.trans (Only.of_below hb5 []) (fun x hx=>by cases hx)
      clear hb5 mL2 mS2
      go_wp2
      go_ret
      have R9:=R5.out
      have z1:(downF n xs n i0).1=ys:=by rw[←hz.out]
      have z2:(downF n xs n i0).2=k:=by rw[←hz.out]
      rw[z1,z2]
      exact⟨rfl,R9,O5.out⟩
    ·have HPK:Hid (pickD ys n k=2*k+1):=by
      show pickD ys n k=2*k+1
      unfold pickD
      rw[←HC.out,←HD.out,if_neg (fun h=>hcd h.2)]
     rw[decide_eq_false hcd]
     have mL2:=mLess f _ m cap w2 yf2
     have mS2:=mSwap f _ m cap w2 yf2
     obtain⟨b,hb⟩: ∃b,b=at0 ys (2*k+1):=⟨_,rfl⟩
     have hL2:=aLess_z g cap ys (2*k+1) k b a (by rw[hb];exact at0_some (by rw[HYL.out];omega)) (by rw[HA.out];exact at0_some (by rw[HYL.out];omega)) w2 R2.out
     rw[HYL.out] at hL2
     have HL2:=hid hL2
     have HB:=hid hb
     clear hL2 hb
     by_cases hab:b<a
     ·rw[decide_eq_true hab] at HL2
      rw[e1] at HL2
      go_wp2_with fail
      refine HL2.out.mono ?_
      rintro e w5 ⟨rfl,hb5⟩
      have R5:Hid (AddrRow w5 g cap ys):=R2.out.only (Only.of_below hb5 []) (by simp)
      have O5:Hid (Only [g] w w5):=O2.out.trans (Only.of_below hb5 []) (fun x hx=>by cases hx)
      have yf5:w5.cell? ⟨f,0,none⟩=some (.slice (some ⟨g,0,none⟩) m cap):=ck yf2 hb5
      have mS5:=mSwap f _ m cap w5 yf5
      clear hb5 mL2 mS2
      have hS:=aSwap_z g cap ys k (2*k+1) a b (by rw[HA.out];exact at0_some (by rw[HYL.out];omega)) (by rw[HB.out];exact at0_some (by rw[HYL.out];omega)) w5 R5.out
      rw[HYL.out] at hS
      have HS:=hid hS
      clear hS
      go_wp2_with fail
      refine HS.out.mono ?_
      rintro e w6 ⟨⟨v,rfl⟩,hR6,hO6⟩
      have R6:=hid hR6
      have O6:=hid (O5.out.trans hO6 (fun x hx=>Or.inl hx))
      have HU6:Hid (downF fu ((ys.set k b).set (2*k+1) a) n (2*k+1)=downF n xs n i0):=by
       show downF fu ((ys.set k b).set (2*k+1) a) n (2*k+1)=downF n xs n i0
       have:=hU.out
       simp only[downF] at this
       rw[if_neg hk0,HPK.out,←HA.out,←HB.out,if_pos hab] at this
       rw[←this]
       unfold swapL
       rw[←HA.out,←HB.out]
      clear hR6 hO6 mS5 yf5
      go_wp2
      go_roundw
      case rel=>exact⟨2*k+1,fu,_,by omega,by omega,by first | (simp;omega) | simp,by simp[HYL.out],R6.out,O6.out,HU6.out⟩
      case measure=>simp[intOf];omega
     ·rw[decide_eq_false hab] at HL2
      have hz:Hid ((ys,k)=downF n xs n i0):=by
       show(ys,k)=downF n xs n i0
       have:=hU.out
       simp only[downF] at this
       rw[if_neg hk0,HPK.out,←HA.out,←HB.out,if_neg hab] at this
       exact this
      rw[e1] at HL2
      go_wp2_with fail
      refine HL2.out.mono ?_
      rintro e w5 ⟨rfl,hb5⟩
      have R5:Hid (AddrRow w5 g cap ys):=R2.out.only (Only.of_below hb5 []) (by simp)
      have O5:Hid (Only [g] w w5):=O2.out.trans (Only.of_below hb5 []) (fun x hx=>by cases hx)
      clear hb5 mL2 mS2
      go_wp2
      go_ret
      have R9:=R5.out
      have z1:(downF n xs n i0).1=ys:=by rw[←hz.out]
      have z2:(downF n xs n i0).2=k:=by rw[←hz.out]
      rw[z1,z2]
      exact⟨rfl,R9,O5.out⟩
   ·have t3:decide (2*(k:Int)+1+1< (n:Int))=false:=by simp;omega
    have HPK:Hid (pickD ys n k=2*k+1):=by
     show pickD ys n k=2*k+1
     unfold pickD
     rw[if_neg (fun h=>h2 h.1)]
    have mL2:=mLess f _ m cap wr yf
    have mS2:=mSwap f _ m cap wr yf
    obtain⟨b,hb⟩: ∃b,b=at0 ys (2*k+1):=⟨_,rfl⟩
    have hL2:=aLess_z g cap ys (2*k+1) k b a (by rw[hb];exact at0_some (by rw[HYL.out];omega)) (by rw[HA.out];exact at0_some (by rw[HYL.out];omega)) wr hR.out
    rw[HYL.out] at hL2
    have HL2:=hid hL2
    have HB:=hid hb
    clear hL2 hb
    by_cases hab:b<a
    ·rw[decide_eq_true hab] at HL2
     rw[e1] at HL2
     go_wp2_with fail
     refine HL2.out.mono ?_
     rintro e w5 ⟨rfl,hb5⟩
     have R5:Hid (AddrRow w5 g cap ys):=hR.out.only (Only.of_below hb5 []) (by simp)
     have O5:Hid (Only [g] w w5):=hO.out.trans (Only.of_below hb5 []) (fun x hx=>by cases hx)
     have yf5:w5.cell? ⟨f,0,none⟩=some (.slice (some ⟨g,0,none⟩) m cap):=ck yf hb5
     have mS5:=mSwap f _ m cap w5 yf5
     clear hb5 mL2 mS2
     have hS:=aSwap_z g cap ys k (2*k+1) a b (by rw[HA.out];exact at0_some (by rw[HYL.out];omega)) (by rw[HB.out];exact at0_some (by rw[HYL.out];omega)) w5 R5.out
     rw[HYL.out] at hS
     have HS:=hid hS
     clear hS
     go_wp2_with fail
     refine HS.out.mono ?_
     rintro e w6 ⟨⟨v,rfl⟩,hR6,hO6⟩
     have R6:=hid hR6
     have O6:=hid (O5.out.trans hO6 (fun x hx=>Or.inl hx))
     have HU6:Hid (downF fu ((ys.set k b).set (2*k+1) a) n (2*k+1)=downF n xs n i0):=by
      show downF fu ((ys.set k b).set (2*k+1) a) n (2*k+1)=downF n xs n i0
      have:=hU.out
      simp only[downF] at this
      rw[if_neg hk0,HPK.out,←HA.out,←HB.out,if_pos hab] at this
      rw[←this]
      unfold swapL
      rw[←HA.out,←HB.out]
     clear hR6 hO6 mS5 yf5
     go_wp2
     go_roundw
     case rel=>exact⟨2*k+1,fu,_,by omega,by omega,by first | (simp;omega) | simp,by simp[HYL.out],R6.out,O6.out,HU6.out⟩
     case measure=>simp[intOf];omega
    ·rw[decide_eq_false hab] at HL2
     have hz:Hid ((ys,k)=downF n xs n i0):=by
      show(ys,k)=downF n xs n i0
      have:=hU.out
      simp only[downF] at this
      rw[if_neg hk0,HPK.out,←HA.out,←HB.out,if_neg hab] at this
      exact this
     rw[e1] at HL2
     go_wp2_with fail
     refine HL2.out.mono ?_
     rintro e w5 ⟨rfl,hb5⟩
     have R5:Hid (AddrRow w5 g cap ys):=hR.out.only (Only.of_below hb5 []) (by simp)
     have O5:Hid (Only [g] w w5):=hO.out.trans (Only.of_below hb5 []) (fun x hx=>by cases hx)
     clear hb5 mL2 mS2
     go_wp2
     go_ret
     have R9:=R5.out
     have z1:(downF n xs n i0).1=ys:=by rw[←hz.out]
     have z2:(downF n xs n i0).2=k:=by rw[←hz.out]
     rw[z1,z2]
     exact⟨rfl,R9,O5.out⟩
def remD (xs:List Int) (i:Nat):List Int×Nat:=downF (xs.length-1) (swapL xs i (xs.length-1)) (xs.length-1) i
def remL (xs:List Int) (i:Nat):List Int:=
 if xs.length-1=i then xs else if i< (remD xs i).2 then(remD xs i).1 else upF xs.length (remD xs i).1 i
theorem remL_length (xs:List Int) (i:Nat):(remL xs i).length=xs.length:=by
 unfold remL
 split
 ·rfl
 ·split
  ·rw[remD,downF_length,swapL_length]
  ·rw[upF_length,remD,downF_length,swapL_length]
theorem split_last {n:Nat} (xs:List Int) (h:xs.length=n+1): ∃ys x,xs=ys++[x]∧ys.length=n:=by
 have hne:xs≠[]:=by intro e;rw[e] at h;cases h
 exact⟨xs.dropLast,xs.getLast hne,(List.dropLast_concat_getLast hne).symm,by simp[h]⟩
theorem hRemove_z (f g cap n:Nat) (t:TypeId) (xs:List Int) (i:Nat) (hn:xs.length=n+1) (hi:i≤n) (hx:n≤100000) (hfg:f≠g) (w:World) (hb:Blk w f t #[.slice (some ⟨g,0,none⟩) (n+1) cap]) (h:AddrRow w g cap xs):
  Calls Tryz.prog 143 #[.iface 252 (.pointer (some ⟨f,0,none⟩)),.int .i64 (i:Int)] w fun e w'=>(∃r,e= .returned r)∧Blk w' f t #[.slice (some ⟨g,0,none⟩) n cap]∧AddrRow w' g cap (remL xs i).dropLast∧Only [f,g] w w':=by
 have pop: ∀(zs:List Int) (w2:World),zs.length=n+1→Hid (Blk w2 f t #[.slice (some ⟨g,0,none⟩) (n+1) cap])→Hid (AddrRow w2 g cap zs)→
   Calls Tryz.prog 232 #[.pointer (some ⟨f,0,none⟩)] w2 fun e w'=>(∃x:Int,e= .returned (.iface 62 (.int .u64 x)))∧Hid (Blk w' f t #[.slice (some ⟨g,0,none⟩) n cap])∧Hid (AddrRow w' g cap zs.dropLast)∧Hid (Only [f] w2 w'):=by
  intro zs w2 hz b2 r2
  obtain⟨ys,x,rfl,hy⟩:=split_last zs hz
  have:=aPop_z f g cap t ys x hfg w2 (by rw[hy];exact b2.out) r2.out (by omega)
  rw[hy] at this
  refine this.mono ?_
  rintro e w3 ⟨rfl,h1,h2,h3⟩
  exact⟨⟨x,rfl⟩,h1,(by rw[List.dropLast_concat];exact h2),h3⟩
 have y0:w.cell? ⟨f,0,none⟩=some (.slice (some ⟨g,0,none⟩) (n+1) cap):=hb.cell 0
 have hfl:=hb.lt
 have mL:=mLen f _ (n+1) cap w y0
 have POP:=hid pop
 have HN:=hid hn
 have HB:=hid hb
 have H:=hid h
 clear pop hn hb h
 have e1:(((n+1:Nat):Int))=(n:Int)+1:=by omega
 have e0:((n:Int)+1)-1=(n:Int):=by omega
 go_enter Tryz.func143,Tryz.ntmps143
 go_wp2_with fail
 refine(aLen_z (some ⟨g,0,none⟩) (n+1) cap w).mono ?_
 rintro e w1 ⟨rfl,rfl⟩
 by_cases hni:n=i
 ·have t1:((n:Int)==(i:Int))=true:=by simp[hni]
  have mP:=mPop (.pointer (some ⟨f,0,none⟩)) w
  go_wp2_with fail
  refine(POP.out xs w HN.out HB H).mono ?_
  rintro e w2 ⟨⟨x,rfl⟩,b2,r2,o2⟩
  go_wp2
  go_ret
  refine⟨⟨_,rfl⟩,b2.out,?_,o2.out.mono (by simp)⟩
  have:remL xs i=xs:=by unfold remL;rw[if_pos (by rw[HN.out];omega)]
  rw[this];exact r2.out
 ·have t1:((n:Int)==(i:Int))=false:=by simp;omega
  have mS:=mSwap f _ (n+1) cap w y0
  have hl0:xs.length-1=n:=by rw[HN.out];rfl
  have hS:=aSwap_z g cap xs i n (at0 xs i) (at0 xs n) (at0_some (by rw[HN.out];omega)) (at0_some (by rw[HN.out];omega)) w H.out
  rw[HN.out] at hS
  have HS:=hid hS
  clear hS
  go_wp2_with fail
  refine HS.out.mono ?_
  rintro e w2 ⟨⟨v,rfl⟩,r2,o2⟩
  have R2:Hid (AddrRow w2 g cap (swapL xs i n)):=r2
  have hl2:(swapL xs i n).length=n+1:=by rw[swapL_length,HN.out]
  have B2:Hid (Blk w2 f t #[.slice (some ⟨g,0,none⟩) (n+1) cap]):=o2.blk HB.out (by simpa using hfg)
  have yf2:w2.cell? ⟨f,0,none⟩=some (.slice (some ⟨g,0,none⟩) (n+1) cap):=B2.out.cell 0
  have hfl2:=B2.out.lt
  have hD:=down_z f g cap n (swapL xs i n) i hi (by rw[hl2];omega) (by rw[hl2];omega) hfg w2 (by rw[hl2];exact yf2) hfl2 R2.out
  have hrem:remD xs i=downF n (swapL xs i n) n i:=by unfold remD;rw[hl0]
  rw[←hrem] at hD
  have HD:=hid hD
  have O2:=hid o2
  have HR:=hid hrem
  clear hD r2 o2 mS y0 yf2 hrem
  go_wp2_with fail
  refine HD.out.mono ?_
  rintro e w3 ⟨rfl,r3,o3⟩
  have hl3:(remD xs i).1.length=n+1:=by rw[HR.out,downF_length,hl2]
  have B3:Hid (Blk w3 f t #[.slice (some ⟨g,0,none⟩) (n+1) cap]):=o3.blk B2.out (by simpa using hfg)
  have R3:=hid r3
  have O3:=hid (O2.out.trans o3 (fun y hy=>Or.inl hy))
  have yf3:w3.cell? ⟨f,0,none⟩=some (.slice (some ⟨g,0,none⟩) (n+1) cap):=B3.out.cell 0
  have hfl3:=B3.out.lt
  clear r3 o3
  by_cases hk:i< (remD xs i).2
  ·have hrl:remL xs i=(remD xs i).1:=by unfold remL;rw[hl0,if_neg hni,if_pos hk]
   have HRL:=hid hrl
   rw[decide_eq_true hk]
   have mP:=mPop (.pointer (some ⟨f,0,none⟩)) w3
   clear hrl yf3
   go_wp2_with fail
   refine(POP.out (remD xs i).1 w3 hl3 B3 R3).mono ?_
   rintro e w4 ⟨⟨x,rfl⟩,b4,r4,o4⟩
   go_wp2
   go_ret
   refine⟨⟨_,rfl⟩,b4.out,?_,(O3.out.mono (by simp)).trans (o4.out.mono (by simp)) (fun y hy=>Or.inl hy)⟩
   rw[HRL.out];exact r4.out
  ·have hrl:remL xs i=upF (n+1) (remD xs i).1 i:=by unfold remL;rw[hl0,if_neg hni,if_neg hk,HN.out]
   have HRL:=hid hrl
   rw[decide_eq_false hk]
   have hU:=up_z f g cap (remD xs i).1 i (by rw[hl3];omega) (by rw[hl3];omega) hfg w3 (by rw[hl3];exact yf3) hfl3 R3.out
   rw[hl3,←hrl] at hU
   have HU:=hid hU
   clear hrl hU yf3
   go_wp2_with fail
   refine HU.out.mono ?_
   rintro e w4 ⟨⟨v4,rfl⟩,r4,o4⟩
   have hl4:(remL xs i).length=n+1:=by rw[remL_length,HN.out]
   have B4:Hid (Blk w4 f t #[.slice (some ⟨g,0,none⟩) (n+1) cap]):=o4.blk B3.out (by simpa using hfg)
   have R4:=hid r4
   have O4:=hid (O3.out.trans o4 (fun y hy=>Or.inl hy))
   have mP:=mPop (.pointer (some ⟨f,0,none⟩)) w4
   clear r4 o4
   go_wp2_with fail
   refine(POP.out (remL xs i) w4 hl4 B4 R4).mono ?_
   rintro e w5 ⟨⟨x,rfl⟩,b5,r5,o5⟩
   go_wp2
   go_ret
   exact⟨⟨_,rfl⟩,b5.out,r5.out,(O4.out.mono (by simp)).trans (o5.out.mono (by simp)) (fun y hy=>Or.inl hy)⟩
theorem isAt_z (B:Nat) (x a:Int) (w:World) (h:w.cell? ⟨B,0,none⟩=some (.int .u64 a)):Calls Tryz.prog 172 #[.int .u64 x,.pointer (some ⟨B,0,none⟩)] w fun e w'=>e= .returned (.bool (x==a))∧w=w':=by
 go_enter Tryz.func172,Tryz.ntmps172
 go_wp2
 go_ret
 exact⟨rfl,rfl⟩
def idxA (xs:List Int) (a:Int):Int:=if a∈xs then(xs.idxOf a:Int) else-1
theorem idxA_at {xs:List Int} {a:Int} {k:Nat} (hk:k<xs.length) (h0: ∀j,j<k→at0 xs j≠a) (h1:at0 xs k=a):idxA xs a=(k:Int):=by
 have hm:a∈xs:=by
  have:=at0_some hk
  rw[h1] at this
  exact List.mem_of_getElem? this
 rw[idxA,if_pos hm]
 have h2:xs.idxOf a=k:=by
  have hl:xs.idxOf a<xs.length:=List.idxOf_lt_length_iff.2 hm
  have hg:xs[xs.idxOf a]=a:=List.getElem_idxOf hl
  have hga:at0 xs (xs.idxOf a)=a:=by
   have:=at0_some hl
   rw[List.getElem?_eq_getElem hl,hg] at this
   exact(Option.some.inj this).symm
  rcases Nat.lt_trichotomy (xs.idxOf a) k with h | h | h
  ·exact absurd hga (h0 _ h)
  ·exact h
  ·have hne:=List.not_of_lt_findIdx (p:=(· ==a)) (xs:=xs) (i:=k) h
   have hka:xs[k]=a:=by
    have:=at0_some hk
    rw[List.getElem?_eq_getElem hk,h1] at this
    exact Option.some.inj this
   rw[hka] at hne
   simp at hne
 rw[h2]
theorem idxA_no {xs:List Int} {a:Int} (h0: ∀j,j<xs.length→at0 xs j≠a):idxA xs a= -1:=by
 rw[idxA,if_neg]
 intro hm
 obtain⟨j,hj,he⟩:=List.getElem_of_mem hm
 have:=at0_some hj
 rw[List.getElem?_eq_getElem hj,he] at this
 exact h0 j hj (Option.some.inj this).symm
theorem idxFunc_z (g cap B:Nat) (xs:List Int) (a:Int) (hx:xs.length≤1000000) (w:World) (h:AddrRow w g cap xs) (hB:w.cell? ⟨B,0,none⟩=some (.int .u64 a)):
  Calls Tryz.prog 171 #[.slice (some ⟨g,0,none⟩) xs.length cap,.func (.func 172) #[] #[.pointer (some ⟨B,0,none⟩)]] w fun e w'=>e= .returned (.int .i64 (idxA xs a))∧w=w':=by
 obtain⟨n,hn⟩: ∃n,n=xs.length:=⟨_,rfl⟩
 rw[←hn] at hx ⊢
 have HN:=hid hn
 have H:=hid h
 have HB:=hid hB
 clear hn h hB
 go_enter Tryz.func171,Tryz.ntmps171
 go_wp2
 go_loopw [8] (fun i wr=> ∃k:Nat,k≤n∧i= .int .i64 k∧wr=w∧Hid (∀j,j<k→at0 xs j≠a)) (fun i _=>n- (intOf i).toNat)
 case atStart=>exact⟨0,Nat.zero_le _,rfl,rfl,hid (fun j hj=>absurd hj (Nat.not_lt_zero _))⟩
 case round=>
  obtain⟨k,hk,rfl,rfl,hA⟩:=hrel
  by_cases hkn:k<n
  ·have t1:decide ((k:Int)< (n:Int))=true:=by simp;omega
   have i1:(0:Int)≤(k:Int):=by omega
   have i2:(k:Int)< (n:Int):=by omega
   have y0:=H.out.cell (at0_some (xs:=xs) (i:=k) (by rw[←HN.out];exact hkn))
   obtain⟨x,hxx⟩: ∃x,x=at0 xs k:=⟨_,rfl⟩
   rw[←hxx] at y0
   have HX:=hid hxx
   clear hxx
   go_wp2_with fail
   refine(isAt_z B x a wr HB.out).mono ?_
   rintro e w2 ⟨rfl,rfl⟩
   by_cases hxa:x=a
   ·have t2:(x==a)=true:=by simp[hxa]
    rw[t2]
    have hr:idxA xs a=(k:Int):=idxA_at (by rw[←HN.out];exact hkn) hA.out (by rw[←HX.out];exact hxa)
    go_wp2
    go_ret
    exact⟨by rw[hr];rfl,rfl⟩
   ·have t2:(x==a)=false:=by simp[hxa]
    rw[t2]
    go_wp2
    go_roundw
    case rel=>exact⟨k+1,by omega,by simp,trivial,hid (fun j hj=>by
     rcases Nat.lt_succ_iff_lt_or_eq.1 hj with h | h
     ·exact hA.out j h
     ·rw[h,←HX.out];exact hxa)⟩
    case measure=>simp[intOf];omega
  ·have t1:decide ((k:Int)< (n:Int))=false:=by simp;omega
   have hr:idxA xs a= -1:=idxA_no (fun j hj=>hA.out j (by rw[←HN.out] at hj;omega))
   go_wp2
   go_ret
   exact⟨by rw[hr];rfl,rfl⟩
theorem place_z (f g cap:Nat) (xs:List Int) (a:Int) (hx:xs.length≤1000000) (w:World) (hf:w.cell? ⟨f,0,none⟩=some (.slice (some ⟨g,0,none⟩) xs.length cap)) (hfl:f<w.heap.size) (h:AddrRow w g cap xs):
  Calls Tryz.prog 142 #[.pointer (some ⟨f,0,none⟩),.int .u64 a] w fun e w'=>e= .returned (.int .i64 (idxA xs a))∧Below w.heap.size w w':=by
 obtain⟨n,hn⟩: ∃n,n=xs.length:=⟨_,rfl⟩
 rw[←hn] at hx hf
 have HN:=hid hn
 have H:=hid h
 clear hn h
 go_enter Tryz.func142,Tryz.ntmps142
 go_wp2_with fail
 have hb:Below w.heap.size w (w.alloc (.cells #[.int .u64 a] 62)):=by(repeat(first | exact Below.refl _ _ | (refine ba ?_ _) | (refine Below.drew ?_) | (refine below_drewN ?_ _) | (refine Below.alloc ?_ (by first | omega | (simp;done) | (simp;omega)) _) | (refine Below.setCell ?_ (by first | omega | (simp;done) | (simp;omega)) _) | (refine bx ?_ (by assumption)) | (refine Below.trans ?_ (Below.mono (by assumption) (by first | omega | (simp;done) | (simp;omega))))))
 have h1:AddrRow (w.alloc (.cells #[.int .u64 a] 62)) g cap xs:=H.out.only (Only.of_below hb []) (by simp)
 have hc:(w.alloc (.cells #[.int .u64 a] 62)).cell? ⟨w.heap.size,0,none⟩=some (.int .u64 a):=by go_simp
 have hI:=idxFunc_z g cap w.heap.size xs a (by rw[←HN.out];exact hx) _ h1 hc
 rw[←HN.out] at hI
 refine hI.mono ?_
 rintro e w2 ⟨rfl,rfl⟩
 go_wp2
 go_ret
 exact⟨rfl,hb⟩
theorem idxFunc_nil (v:Value) (w:World):Calls Tryz.prog 171 #[.slice none 0 0,v] w fun e w'=>e= .returned (.int .i64 (-1))∧w=w':=by
 go_enter Tryz.func171,Tryz.ntmps171
 go_wp2
 go_loopw [8] (fun i wr=>i= .int .i64 0∧wr=w) (fun i _=>0)
 case atStart=>exact⟨rfl,rfl⟩
 case round=>
  obtain⟨rfl,rfl⟩:=hrel
  go_wp2
  go_ret
  exact⟨rfl,rfl⟩
theorem place_any (f:Nat) (v:Value) (xs:List Int) (a:Int) (hx:xs.length≤1000000) (w:World) (h:FreeRow w f v xs):
  Calls Tryz.prog 142 #[.pointer (some ⟨f,0,none⟩),.int .u64 a] w fun e w'=>e= .returned (.int .i64 (idxA xs a))∧Below w.heap.size w w':=by
 obtain⟨t,hb⟩:=h.blk
 obtain⟨_,h1 | ⟨g,cap,h1,_,h2⟩⟩:=AddrRow.of_own h.row
 ·obtain⟨hv,rfl⟩:=h1
  have hf:w.cell? ⟨f,0,none⟩=some (.slice none 0 0):=by rw[←hv];exact hb.cell 0
  have hfl:=hb.lt
  clear hb h hv
  go_enter Tryz.func142,Tryz.ntmps142
  go_wp2_with fail
  have hb:Below w.heap.size w (w.alloc (.cells #[.int .u64 a] 62)):=by(repeat(first | exact Below.refl _ _ | (refine ba ?_ _) | (refine Below.drew ?_) | (refine below_drewN ?_ _) | (refine Below.alloc ?_ (by first | omega | (simp;done) | (simp;omega)) _) | (refine Below.setCell ?_ (by first | omega | (simp;done) | (simp;omega)) _) | (refine bx ?_ (by assumption)) | (refine Below.trans ?_ (Below.mono (by assumption) (by first | omega | (simp;done) | (simp;omega))))))
  refine Calls.mono (idxFunc_nil (.func (.func 172) #[] #[.pointer (some ⟨w.heap.size,0,none⟩)]) (w.alloc (.cells #[.int .u64 a] 62))) ?_
  rintro e w2 ⟨rfl,rfl⟩
  go_wp2
  go_ret
  exact⟨rfl,hb⟩
 ·have hf:w.cell? ⟨f,0,none⟩=some (.slice (some ⟨g,0,none⟩) xs.length cap):=by rw[←h1];exact hb.cell 0
  exact place_z f g cap xs a hx w hf hb.lt h2
theorem at0_get {xs:List Int} {i:Nat} (h:i<xs.length):at0 xs i=xs[i]:=by simp[at0,h]
theorem swapL_get_other {xs:List Int} {i j k:Nat} (h1:k≠i) (h2:k≠j):(swapL xs i j)[k]?=xs[k]?:=by
 unfold swapL
 rw[List.getElem?_set_ne (Ne.symm h2),List.getElem?_set_ne (Ne.symm h1)]
theorem swapL_last {xs:List Int} {i j:Nat} (hi:i<xs.length) (hj:j<xs.length):(swapL xs i j)[j]?=some (at0 xs i):=by
 unfold swapL
 rw[List.getElem?_set_self (by simpa using hj)]
theorem swapL_perm {xs:List Int} {i j:Nat} (hi:i<xs.length) (hj:j<xs.length):(swapL xs i j).Perm xs:=by
 rw[List.perm_iff_count]
 intro x
 unfold swapL
 rw[at0_get hi,at0_get hj,List.count_set (by simpa using hj),List.count_set hi]
 have h1:(xs.set i xs[j])[j]'(by simpa using hj)=xs[j]:=by
  rw[List.getElem_set];split<;>rfl
 rw[h1]
 have h2:(if(xs[i]==x)=true then 1 else 0)≤xs.count x:=by
  split
  ·rename_i h
   have:xs[i]=x:=by simpa using h
   exact List.count_pos_iff.2 (this▸List.getElem_mem hi)
  ·omega
 omega
theorem upF_perm: ∀(f:Nat) (xs:List Int) (j:Nat),j<xs.length→(upF f xs j).Perm xs
 | 0,xs,j,_=>List.Perm.refl _
 | f+1,xs,j,hj=>by
  unfold upF
  split
  ·exact List.Perm.refl _
  ·split
   ·exact(upF_perm f _ _ (by rw[swapL_length];omega)).trans (swapL_perm (by omega) hj)
   ·exact List.Perm.refl _
theorem upF_get: ∀(f:Nat) (xs:List Int) (j k:Nat),j<k→(upF f xs j)[k]?=xs[k]?
 | 0,xs,j,k,_=>rfl
 | f+1,xs,j,k,hk=>by
  unfold upF
  split
  ·rfl
  ·split
   ·rw[upF_get f _ _ _ (by omega),swapL_get_other (by omega) (by omega)]
   ·rfl
theorem downF_perm: ∀(f:Nat) (xs:List Int) (n i:Nat),n≤xs.length→i<xs.length→(downF f xs n i).1.Perm xs
 | 0,xs,n,i,_,_=>List.Perm.refl _
 | f+1,xs,n,i,hn,hi=>by
  simp only[downF]
  split
  ·exact List.Perm.refl _
  ·rename_i h
   have hp:=pickD_lt (xs:=xs) h
   split
   ·exact(downF_perm f _ _ _ (by rw[swapL_length];exact hn) (by rw[swapL_length];omega)).trans (swapL_perm hi (by omega))
   ·exact List.Perm.refl _
theorem downF_get: ∀(f:Nat) (xs:List Int) (n i k:Nat),i<n→n≤k→(downF f xs n i).1[k]?=xs[k]?
 | 0,xs,n,i,k,_,_=>rfl
 | f+1,xs,n,i,k,hi,hk=>by
  simp only[downF]
  split
  ·rfl
  ·rename_i h
   have hp:=pickD_lt (xs:=xs) h
   split
   ·rw[downF_get f _ _ _ _ hp.1 hk,swapL_get_other (by omega) (by omega)]
   ·rfl
theorem remL_perm {xs:List Int} {i:Nat} (hi:i<xs.length):(remL xs i).Perm xs:=by
 unfold remL
 have hd:(remD xs i).1.Perm xs:=by
  unfold remD
  exact(downF_perm _ _ _ _ (by rw[swapL_length];omega) (by rw[swapL_length];omega)).trans (swapL_perm hi (by omega))
 split
 ·exact List.Perm.refl _
 ·split
  ·exact hd
  ·exact(upF_perm _ _ _ (by rw[hd.length_eq];omega)).trans hd
theorem remL_last {xs:List Int} {i:Nat} (hi:i<xs.length):(remL xs i)[xs.length-1]?=xs[i]?:=by
 unfold remL
 split
 ·rename_i h;rw[h]
 ·rename_i h
  have hd:(remD xs i).1[xs.length-1]?=xs[i]?:=by
   unfold remD
   rw[downF_get _ _ _ _ _ (by omega) (Nat.le_refl _),swapL_last hi (by omega),at0_get hi]
   simp[hi]
  split
  ·exact hd
  ·rw[upF_get _ _ _ _ (by omega),hd]
theorem dropLast_perm {ys xs:List Int} {a:Int} (hp:ys.Perm xs) (hl:ys[xs.length-1]?=some a):ys.dropLast.Perm (xs.erase a):=by
 have hy:ys.length=xs.length:=hp.length_eq
 have hlt:=(List.getElem?_eq_some_iff.1 hl).1
 have hne:ys≠[]:=by intro e;subst e;simp at hlt
 have hg:ys.getLast hne=a:=by
  rw[List.getLast_eq_getElem]
  have:=(List.getElem?_eq_some_iff.1 hl).2
  simpa[hy] using this
 have h1:(ys.dropLast++[a]).Perm xs:=by
  rw[←hg,List.dropLast_concat_getLast];exact hp
 have hmem:a∈xs:=h1.subset (by simp)
 have h2:(a::ys.dropLast).Perm (a::xs.erase a):=(List.perm_append_singleton a ys.dropLast).symm.trans (h1.trans (List.perm_cons_erase hmem))
 exact h2.cons_inv
theorem remL_drop {xs:List Int} {i:Nat} {a:Int} (ha:xs[i]?=some a):(remL xs i).dropLast.Perm (xs.erase a):=by
 have hi:=(List.getElem?_eq_some_iff.1 ha).1
 exact dropLast_perm (remL_perm hi) (by rw[remL_last hi,ha])
def popL (xs:List Int):List Int:=(downF (xs.length-1) (swapL xs 0 (xs.length-1)) (xs.length-1) 0).1
theorem popL_length (xs:List Int):(popL xs).length=xs.length:=by rw[popL,downF_length,swapL_length]
theorem popL_perm {xs:List Int} (hx:xs≠[]):(popL xs).Perm xs:=by
 have:=List.length_pos_iff.2 hx
 unfold popL
 exact(downF_perm _ _ _ _ (by rw[swapL_length];omega) (by rw[swapL_length];omega)).trans (swapL_perm this (by omega))
theorem has_any (f:Nat) (v:Value) (xs:List Int) (a:Int) (hx:xs.length≤1000000) (w:World) (h:FreeRow w f v xs):
  Calls Tryz.prog 168 #[.pointer (some ⟨f,0,none⟩),.int .u64 a] w fun e w'=>e= .returned (.bool (decide (a∈xs)))∧Below w.heap.size w w':=by
 have hP:=place_any f v xs a hx w h
 have HP:=hid hP
 have hd:decide (0≤idxA xs a)=decide (a∈xs):=by
  unfold idxA
  by_cases hm:a∈xs
  ·rw[if_pos hm];simp[hm]
  ·rw[if_neg hm];simp[hm]
 have HD:=hid hd
 clear hP h hd
 go_enter Tryz.func168,Tryz.ntmps168
 go_wp2_with fail
 refine HP.out.mono ?_
 rintro e w2 ⟨rfl,hb⟩
 go_wp2
 go_ret
 refine⟨?_,hb⟩
 rw[←HD.out];rfl
theorem FreeRow.only {fs:List Nat} {w w':World} {f:Nat} {v:Value} {xs:List Int} (h:FreeRow w f v xs) (ho:Only fs w w') (hf:f∉fs) (hv: ∀g,v.ownBlock=some g→g∉fs):FreeRow w' f v xs:=by
 obtain⟨t,hb⟩:=h.blk
 refine⟨⟨t,ho.blk hb hf⟩,?_,h.far⟩
 obtain⟨_,h1 | ⟨g,cap,h1,_,h2⟩⟩:=AddrRow.of_own h.row
 ·obtain⟨rfl,rfl⟩:=h1
  exact⟨by simp,Or.inl ⟨rfl,rfl⟩⟩
 ·have:=(h2.only ho (hv g (by rw[h1];rfl))).own
  rw[h1];exact this
def dropA (xs:List Int) (a:Int):List Int:=if a∈xs then(remL xs (xs.idxOf a)).dropLast else xs
theorem FDrop_z (f:Nat) (v:Value) (xs:List Int) (a:Int) (hx:xs.length≤100000) (w:World) (h:FreeRow w f v xs):
  Calls Tryz.prog 103 #[.pointer (some ⟨f,0,none⟩),.int .u64 a] w fun e w'=>e= .returned (.bool (decide (a∈xs)))∧ ∃v',FreeRow w' f v' (dropA xs a)∧Only (f::v.ownBlock.toList) w w'∧v'.ownBlock=v.ownBlock:=by
 have hP:=place_any f v xs a (by omega) w h
 have HP:=hid hP
 have H:=hid h
 clear hP h
 by_cases hm:a∈xs
 ·obtain⟨t,hb⟩:=H.out.blk
  obtain⟨g,cap,hv,hA,hfg⟩:=H.out.some_ (by intro e;rw[e] at hm;cases hm)
  obtain⟨n,hn⟩: ∃n,xs.length=n+1:=⟨xs.length-1,by have:=List.length_pos_of_mem hm;omega⟩
  obtain⟨i,hi⟩: ∃i,i=xs.idxOf a:=⟨_,rfl⟩
  have hin:i<xs.length:=by rw[hi];exact List.idxOf_lt_length_iff.2 hm
  have hix:idxA xs a=(i:Int):=by unfold idxA;rw[if_pos hm,hi]
  rw[hix] at HP
  have hdr:dropA xs a=(remL xs i).dropLast:=by unfold dropA;rw[if_pos hm,hi]
  rw[hdr,show decide (a∈xs)=true by simp[hm]]
  have hlen:(remL xs i).dropLast.length=n:=by simp[remL_length,hn]
  have R: ∀w2,Below w.heap.size w w2→Calls Tryz.prog 143 #[.iface 252 (.pointer (some ⟨f,0,none⟩)),.int .i64 (i:Int)] w2 fun e w'=>(∃r,e= .returned r)∧FreeRow w' f (.slice (some ⟨g,0,none⟩) n cap) (remL xs i).dropLast∧Only (f::v.ownBlock.toList) w w':=by
   intro w2 hb2
   have b2:Blk w2 f t #[.slice (some ⟨g,0,none⟩) (n+1) cap]:=by
    have:=(Only.of_below hb2 []).blk hb (by simp)
    rw[hv,hn] at this;exact this
   have a2:=hA.only (Only.of_below hb2 []) (by simp)
   refine(hRemove_z f g cap n t xs i hn (by omega) (by omega) hfg w2 b2 a2).mono ?_
   rintro e w3 ⟨h1,h2,h3,h4⟩
   refine⟨h1,⟨⟨t,h2⟩,?_,?_⟩,?_⟩
   ·have:=h3.own
    rw[hlen] at this ⊢;exact this
   ·intro e;exact hfg (by simpa using(Option.some.inj e).symm)
   ·refine(Only.of_below hb2 (f::v.ownBlock.toList)).trans h4 (fun y hy=> ?_)
    have hy':y=f∨y=g:=by simpa using hy
    refine Or.inl ?_
    rcases hy' with e | e
    ·subst e;exact List.mem_cons_self ..
    ·subst e;rw[hv];exact List.mem_cons_of_mem _ (by simp[Value.ownBlock])
  have i1:((i:Int)<0)=False:=by simp
  have HR:=hid R
  have HV:=hid hv
  clear hb hA hv hix hdr R hi hm
  go_enter Tryz.func103,Tryz.ntmps103
  go_wp2_with fail
  refine HP.out.mono ?_
  rintro e w2 ⟨rfl,hb2⟩
  go_wp2_with fail
  refine(HR.out w2 hb2).mono ?_
  rintro e w3 ⟨⟨r,rfl⟩,h1,h2⟩
  go_wp2
  go_ret
  exact⟨rfl,_,h1,h2,by rw[HV.out];rfl⟩
 ·have hi:idxA xs a= -1:=by unfold idxA;rw[if_neg hm]
  rw[hi] at HP
  have hdr:dropA xs a=xs:=by unfold dropA;rw[if_neg hm]
  rw[hdr,show decide (a∈xs)=false by simp[hm]]
  clear hi hdr
  go_enter Tryz.func103,Tryz.ntmps103
  go_wp2_with fail
  refine HP.out.mono ?_
  rintro e w2 ⟨rfl,hb⟩
  go_wp2
  go_ret
  exact⟨rfl,v,H.out.only (Only.of_below hb []) (by simp) (by simp),(Only.of_below hb []).mono (by simp),rfl⟩
theorem FPut_z (f:Nat) (v:Value) (xs:List Int) (a:Int) (hx:xs.length≤100000) (h0:a≠0) (hm:a∉xs) (w:World) (h:FreeRow w f v xs):
  Calls Tryz.prog 137 #[.pointer (some ⟨f,0,none⟩),.int .u64 a] w fun e w'=>e= .returned (.int .i64 0)∧ ∃v' xs',FreeRow w' f v' xs'∧xs'=upF (xs.length+1) (xs++[a]) xs.length∧Only (f::v.ownBlock.toList) w w'∧(v'.ownBlock=v.ownBlock∨ ∃g,v'.ownBlock=some g∧w.heap.size≤g):=by
 have hH:=has_any f v xs a (by omega) w h
 rw[show decide (a∈xs)=false by simp[hm]] at hH
 have P: ∀w2,Below w.heap.size w w2→Calls Tryz.prog 169 #[.iface 252 (.pointer (some ⟨f,0,none⟩)),.iface 62 (.int .u64 a)] w2 fun e w'=>(∃r,e= .returned r)∧ ∃v' xs',FreeRow w' f v' xs'∧xs'=upF (xs.length+1) (xs++[a]) xs.length∧Only (f::v.ownBlock.toList) w w'∧(v'.ownBlock=v.ownBlock∨ ∃g,v'.ownBlock=some g∧w.heap.size≤g):=by
  intro w2 hb
  refine(hPush_z f v xs a hx w2 (h.only (Only.of_below hb []) (by simp) (by simp))).mono ?_
  rintro e w3 ⟨h1,v',h2,h3,h4⟩
  refine⟨h1,v',_,h2,rfl,((Only.of_below hb _).trans h3 (fun y hy=>Or.inl hy)),?_⟩
  rcases h4 with h4 | ⟨g,h4,h5⟩
  ·exact Or.inl h4
  ·exact Or.inr ⟨g,h4,Nat.le_trans hb.size h5⟩
 have t0:((a:Int)==0)=false:=by simp[h0]
 have HH:=hid hH
 have HP:=hid P
 clear hH P h hm
 go_enter Tryz.func137,Tryz.ntmps137
 go_wp2_with fail
 refine HH.out.mono ?_
 rintro e w2 ⟨rfl,hb2⟩
 go_wp2_with fail
 refine(HP.out w2 hb2).mono ?_
 rintro e w3 ⟨⟨r,rfl⟩,h1⟩
 have H1:=hid h1
 clear h1
 go_wp2
 go_ret
 exact⟨rfl,H1.out⟩
theorem hPop_z (f g cap n:Nat) (t:TypeId) (xs:List Int) (hn:xs.length=n+1) (hx:n≤100000) (hfg:f≠g) (w:World) (hb:Blk w f t #[.slice (some ⟨g,0,none⟩) (n+1) cap]) (h:AddrRow w g cap xs):
  Calls Tryz.prog 145 #[.iface 252 (.pointer (some ⟨f,0,none⟩))] w fun e w'=>e= .returned (.iface 62 (.int .u64 (at0 xs 0)))∧Blk w' f t #[.slice (some ⟨g,0,none⟩) n cap]∧AddrRow w' g cap (popL xs).dropLast∧Only [f,g] w w':=by
 have pop: ∀(w2:World),Hid (Blk w2 f t #[.slice (some ⟨g,0,none⟩) (n+1) cap])→Hid (AddrRow w2 g cap (popL xs))→
   Calls Tryz.prog 232 #[.pointer (some ⟨f,0,none⟩)] w2 fun e w'=>e= .returned (.iface 62 (.int .u64 (at0 xs 0)))∧Hid (Blk w' f t #[.slice (some ⟨g,0,none⟩) n cap])∧Hid (AddrRow w' g cap (popL xs).dropLast)∧Hid (Only [f] w2 w'):=by
  intro w2 b2 r2
  have hz:(popL xs).length=n+1:=by rw[popL_length,hn]
  have hl:(popL xs)[n]?=some (at0 xs 0):=by
   unfold popL
   rw[hn]
   by_cases hn0:n=0
   ·subst hn0
    show(swapL xs 0 0)[0]?=_
    rw[swapL_last (by omega) (by omega)]
   ·rw[downF_get _ _ _ _ _ (by omega) (by omega)]
    exact swapL_last (by omega) (by omega)
  obtain⟨ys,x,hp,hy⟩:=split_last _ hz
  have hxx:x=at0 xs 0:=by
   rw[hp,List.getElem?_append_right (by omega),hy] at hl
   simpa using hl
  rw[hp] at r2 ⊢
  have:=aPop_z f g cap t ys x hfg w2 (by rw[hy];exact b2.out) r2.out (by omega)
  rw[hy] at this
  refine this.mono ?_
  rintro e w3 ⟨rfl,h1,h2,h3⟩
  exact⟨by rw[hxx],h1,(by rw[List.dropLast_concat];exact h2),h3⟩
 have y0:w.cell? ⟨f,0,none⟩=some (.slice (some ⟨g,0,none⟩) (n+1) cap):=hb.cell 0
 have hfl:=hb.lt
 have mL:=mLen f _ (n+1) cap w y0
 have POP:=hid pop
 have HN:=hid hn
 have HB:=hid hb
 have H:=hid h
 clear pop hn hb h
 have e1:(((n+1:Nat):Int))=(n:Int)+1:=by omega
 have e0:((n:Int)+1)-1=(n:Int):=by omega
 go_enter Tryz.func145,Tryz.ntmps145
 go_wp2_with fail
 refine(aLen_z (some ⟨g,0,none⟩) (n+1) cap w).mono ?_
 rintro e w1 ⟨rfl,rfl⟩
 have mS:=mSwap f _ (n+1) cap w y0
 have hl0:xs.length-1=n:=by rw[HN.out];rfl
 have hS:=aSwap_z g cap xs 0 n (at0 xs 0) (at0 xs n) (at0_some (by rw[HN.out];omega)) (at0_some (by rw[HN.out];omega)) w H.out
 rw[HN.out] at hS
 have HS:=hid hS
 clear hS
 go_wp2_with fail
 refine HS.out.mono ?_
 rintro e w2 ⟨⟨v,rfl⟩,r2,o2⟩
 have R2:Hid (AddrRow w2 g cap (swapL xs 0 n)):=r2
 have hl2:(swapL xs 0 n).length=n+1:=by rw[swapL_length,HN.out]
 have B2:Hid (Blk w2 f t #[.slice (some ⟨g,0,none⟩) (n+1) cap]):=o2.blk HB.out (by simpa using hfg)
 have yf2:w2.cell? ⟨f,0,none⟩=some (.slice (some ⟨g,0,none⟩) (n+1) cap):=B2.out.cell 0
 have hfl2:=B2.out.lt
 have hD:=down_z f g cap n (swapL xs 0 n) 0 (by omega) (by rw[hl2];omega) (by rw[hl2];omega) hfg w2 (by rw[hl2];exact yf2) hfl2 R2.out
 have hpop:popL xs=(downF n (swapL xs 0 n) n 0).1:=by unfold popL;rw[hl0]
 rw[←hpop] at hD
 have HD:=hid hD
 have O2:=hid o2
 clear hD r2 o2 mS y0 yf2 hpop
 go_wp2_with fail
 refine HD.out.mono ?_
 rintro e w3 ⟨rfl,r3,o3⟩
 have B3:Hid (Blk w3 f t #[.slice (some ⟨g,0,none⟩) (n+1) cap]):=o3.blk B2.out (by simpa using hfg)
 have R3:=hid r3
 have O3:=hid (O2.out.trans o3 (fun y hy=>Or.inl hy))
 have mP:=mPop (.pointer (some ⟨f,0,none⟩)) w3
 clear r3 o3
 go_wp2_with fail
 refine(POP.out w3 B3 R3).mono ?_
 rintro e w4 ⟨rfl,b4,r4,o4⟩
 go_wp2
 go_ret
 exact⟨rfl,b4.out,r4.out,(O3.out.mono (by simp)).trans (o4.out.mono (by simp)) (fun y hy=>Or.inl hy)⟩
theorem FTake_some (f:Nat) (v:Value) (xs:List Int) (hx:xs.length≤100000) (h0:xs≠[]) (w:World) (h:FreeRow w f v xs):
  Calls Tryz.prog 109 #[.pointer (some ⟨f,0,none⟩)] w fun e w'=>e= .returned (.tuple #[.int .u64 (at0 xs 0),.bool true])∧ ∃v',FreeRow w' f v' (popL xs).dropLast∧Only (f::v.ownBlock.toList) w w'∧v'.ownBlock=v.ownBlock:=by
 obtain⟨t,hb⟩:=h.blk
 obtain⟨g,cap,hv,hA,hfg⟩:=h.some_ h0
 obtain⟨n,hn⟩: ∃n,xs.length=n+1:=⟨xs.length-1,by have:=List.length_pos_iff.2 h0;omega⟩
 have hL:=FLen_z f v xs w h
 have hlen:(popL xs).dropLast.length=n:=by simp[popL_length,hn]
 rw[hn] at hv
 rw[hv] at hb
 have R:Calls Tryz.prog 145 #[.iface 252 (.pointer (some ⟨f,0,none⟩))] w fun e w'=>e= .returned (.iface 62 (.int .u64 (at0 xs 0)))∧FreeRow w' f (.slice (some ⟨g,0,none⟩) n cap) (popL xs).dropLast∧Only (f::v.ownBlock.toList) w w':=by
  refine(hPop_z f g cap n t xs hn (by omega) hfg w hb hA).mono ?_
  rintro e w3 ⟨h1,h2,h3,h4⟩
  refine⟨h1,⟨⟨t,h2⟩,?_,?_⟩,?_⟩
  ·have:=h3.own
   rw[hlen] at this ⊢;exact this
  ·intro e;exact hfg (by simpa using(Option.some.inj e).symm)
  ·rw[hv];exact h4.mono (fun y hy=>hy)
 have hta: ∀w',(Instr.typeAssert (.iface 62 (.int .u64 (at0 xs 0))) 20 62 false).run Tryz.prog w'=Result.ok (.int .u64 (at0 xs 0)) w':=fun w'=>by simp[Instr.typeAssert,run_underlying Tryz.underlying62]
 have t0:((((xs.length:Nat):Int))==0)=false:=by simp;omega
 have HR:=hid R
 have HL:=hid hL
 have HV:=hid hv
 clear hb hA hv R h hL hn h0
 go_enter Tryz.func109,Tryz.ntmps109
 go_wp2_with fail
 refine HL.out.mono ?_
 rintro e w2 ⟨rfl,rfl⟩
 go_wp2_with fail
 refine HR.out.mono ?_
 rintro e w3 ⟨rfl,h1,h2⟩
 have H1:=hid h1
 have H2:=hid h2
 clear h1 h2
 go_wp2
 go_ret2
 exact⟨rfl,_,H1.out,H2.out,by rw[HV.out];rfl⟩
theorem FTake_none (f:Nat) (v:Value) (w:World) (h:FreeRow w f v []):
  Calls Tryz.prog 109 #[.pointer (some ⟨f,0,none⟩)] w fun e w'=>e= .returned (.tuple #[.int .u64 0,.bool false])∧w=w':=by
 have hL:=FLen_z f v [] w h
 have HL:=hid hL
 clear hL h
 have t0:((((([]:List Int).length:Nat):Int))==0)=true:=by simp
 go_enter Tryz.func109,Tryz.ntmps109
 go_wp2_with fail
 refine HL.out.mono ?_
 rintro e w2 ⟨rfl,rfl⟩
 go_wp2
 go_ret2
 exact⟨rfl,rfl⟩
end Go.Proofs.YtjmaicckkkdjpaaGreat
