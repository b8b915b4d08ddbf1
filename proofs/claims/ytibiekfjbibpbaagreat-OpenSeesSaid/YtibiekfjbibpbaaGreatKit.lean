import Derived.RangeFuncRecord
import Derived.Test.YtibiekfjbibpbaaGreatAppM
import Derived.Deep.Cut
import Derived.Deep.RegionHeld3
import Derived.StillTailTactics
set_option linter.unusedVariables false
set_option linter.unusedSimpArgs false
namespace Go.Proofs.YtibiekfjbibpbaaGreat
open Go.RowKit
section
variable {P:Program}
theorem q6m (w:World) (kt:TypeId) (hk:P.underlying kt=some (.int .u64)) (k:Int) (b:Bool) (n:Nat):(Instr.checkKey b (n+1) kt (.int .u64 k)).run P w= .ok () w:=by unfold Instr.checkKey;simp[run_underlying hk,Result.andThen]
theorem q5o {k:Int}:∀{es:List MapEntry} {i:Nat},(∀e∈es,∃x,e.key= .int .u64 x/\x≠k)->Instr.findNow (.int .u64) (.int .u64 k) es i=some none
 | [],i,_=>rfl
 | e::es,i,h=>by
  obtain⟨x,hx,I⟩:=h e (Ae ..);unfold Instr.findNow;rw[hx];have hb:(k==x)=false:=by simpa using fun hc:k=x=>I hc.symm
  simp only[Instr.sameNow,if_true,hb];exact q5o fun e he=>h e (AW _ he)
theorem z4s {k:Int} {e:MapEntry} {post:List MapEntry} (he:e.key= .int .u64 k):∀{pre:List MapEntry} {i:Nat},(∀e∈pre,∃x,e.key= .int .u64 x/\x≠k)->Instr.findNow (.int .u64) (.int .u64 k) (pre++e::post) i=some (some (i+pre.length,e.val))
 | [],i,_=>by unfold Instr.findNow;simp[he,Instr.sameNow]
 | d::pre,i,h=>by
  obtain⟨x,hx,I⟩:=h d (Ae ..);rw[Ct];unfold Instr.findNow;rw[hx];have hb:(k==x)=false:=by simpa using fun hc:k=x=>I hc.symm
  simp only[Instr.sameNow,if_true,hb];rw[z4s he fun e he=>h e (AW _ he)];simp;omega
theorem z3w {w:World} {kt:TypeId} (hk:P.underlying kt=some (.int .u64)) {k:Int} {es:List MapEntry} {r:Option (Nat×Value)} (hf:Instr.findNow (.int .u64) (.int .u64 k) es 0=some r):(Instr.findKey kt (.int .u64 k) es).run P w= .ok r w:=by unfold Instr.findKey;simp[run_underlying hk,hf,Result.andThen]
theorem z0r (w:World) (t kt vt:TypeId) (hu:P.underlying t=some (.map kt vt)) (hk:P.underlying kt=some (.int .u64)) (r:Nat) (es:Array MapEntry) (clock:Nat) (hb:w.heap[r]?=some (.map es clock)) (k:Int) (v:Value)
  (hf:Instr.findNow (.int .u64) (.int .u64 k) es.toList 0=some none):
  (Instr.mapUpdate t (.map (some r)) (.int .u64 k) v).run P w= .ok () (w.putObj r (.map (es.push { key:= .int .u64 k,val:=v,born:=clock }) (clock+1))):=by
 have hg:(getObj r).run P w= .ok (.map es clock) w:=by simp[getObj,Sem.run,hb]
 have hs:(setObj r (.map (es.push { key:= .int .u64 k,val:=v,born:=clock }) (clock+1))).run P w= .ok () (w.putObj r (.map (es.push { key:= .int .u64 k,val:=v,born:=clock }) (clock+1))):=by simp[setObj,Sem.run,hb,World.putObj]
 have hc:=q6m w kt hk k false 9999;have I:=z3w (w:=w) hk hf;unfold Instr.mapUpdate;simp only[Sem.run_bind,run_underlying hu,hg,hc,I,hs,Result.andThen]
theorem q8x (w:World) (t kt vt:TypeId) (hu:P.underlying t=some (.map kt vt)) (hk:P.underlying kt=some (.int .u64)) (r:Nat) (es:Array MapEntry) (clock:Nat) (hb:w.heap[r]?=some (.map es clock)) (k:Int) (i:Nat) (v:Value) (ok:Bool)
  (hf:Instr.findNow (.int .u64) (.int .u64 k) es.toList 0=some (some (i,v))):
  (Instr.lookup t (.map (some r)) (.int .u64 k) ok).run P w= .ok (if ok then .tuple #[v,.bool true] else v) w:=by
 have hg:(getObj r).run P w= .ok (.map es clock) w:=by simp[getObj,Sem.run,hb]
 have hc:=fun b=>q6m (P:=P) w kt hk k b 9999;have I:=z3w (w:=w) hk hf;unfold Instr.lookup;simp only[Sem.run_bind,run_underlying hu,hg,hc,I,Result.andThen,Sem.run_pure]
theorem q8k (w:World) (t kt vt:TypeId) (hu:P.underlying t=some (.map kt vt)) (hk:P.underlying kt=some (.int .u64)) (r:Nat) (es:Array MapEntry) (clock:Nat) (hb:w.heap[r]?=some (.map es clock)) (k:Int) (z:Value) (ok:Bool)
  (hz:(P.info? vt).bind (·.zero)=some z) (hf:Instr.findNow (.int .u64) (.int .u64 k) es.toList 0=some none):
  (Instr.lookup t (.map (some r)) (.int .u64 k) ok).run P w= .ok (if ok then .tuple #[z,.bool false] else z) w:=by
 have hg:(getObj r).run P w= .ok (.map es clock) w:=by simp[getObj,Sem.run,hb]
 have hc:=fun b=>q6m (P:=P) w kt hk k b 9999;have L:=z3w (w:=w) hk hf
 have I:(zeroValue vt).run P w= .ok z w:=by
  cases hi:P.info? vt with
  | none=>rw[hi] at hz;cases hz
  | some i=>rw[hi] at hz;have hz:i.zero=some z:=hz;simp[zeroValue,typeInfo,program,Sem.run,hi,hz]
 unfold Instr.lookup;simp only[Sem.run_bind,run_underlying hu,hg,hc,L,I,Result.andThen,Sem.run_pure]
theorem q9a {w:World} {r:Nat} {o o':Obj} (h:w.heap[r]?=some o):(w.putObj r o').heap[r]?=some o':=by have hlt:r<w.heap.size:=(AA.1 h).1;simp[World.putObj,hlt]
theorem Blk.putObj {w:World} {g r:Nat} {t:TypeId} {cs:Array Value} (h:Blk w g t cs) (I:g≠r) (o:Obj):Blk (w.putObj r o) g t cs:=(World.putObj_heap_other (by first|exact I|exact fun e=>I e.symm)).trans h
theorem Only.putObj {f:List Nat} {a b:World} (h:Only f a b) {r:Nat} (hr:r∈f\/a.heap.size<=r) (o:Obj):Only f a (b.putObj r o):=⟨h.os,h.tape,h.output,by simpa[World.putObj] using h.size,fun x hx hn=>(World.putObj_heap_other (fun e=>by subst e;rcases hr with hr|hr;exact hn hr;omega)).trans (h.block x hx hn)⟩
end
end Go.Proofs.YtibiekfjbibpbaaGreat
namespace Go.Proofs.YtibiekfjbibpbaaGreat
open Go.RowKit
def ldR (P:Program) (t:TypeId) (v:Value) (w:World):Result Value:=(Instr.loadAt t v).run P w
def lvR (P:Program) (t:TypeId) (a:Addr) (w:World):Result Value:=(loadVar t a).run P w
def stR (P:Program) (t:TypeId) (p v:Value) (w:World):Result Unit:=(Instr.storeAt t p v).run P w
def ldM (t:TypeId) (v:Value):Sem Value:=Instr.loadAt t v
def lvM (t:TypeId) (a:Addr):Sem Value:=loadVar t a
def stM (t:TypeId) (p v:Value):Sem Unit:=Instr.storeAt t p v
theorem q1x (P:Program) (t:TypeId) (v:Value) (w:World):(ldM t v).run P w=ldR P t v w:=rfl
theorem q1p (P:Program) (t:TypeId) (a:Addr) (w:World):(lvM t a).run P w=lvR P t a w:=rfl
theorem q1v (P:Program) (t:TypeId) (p v:Value) (w:World):(stM t p v).run P w=stR P t p v w:=rfl
theorem Blk.lv {P:Program} {w:World} {b:Nat} {t ty:TypeId} {cs:Array Value} {d:TypeDesc} (h:Blk w b t cs) (hu:P.underlying ty=some d) (hd:d.isRow=true) (hi:(P.info? ty).map (·.size)=some cs.size):lvR P ty ⟨b,0,none⟩ w= .ok (.agg cs) w:=by
 have h1:w.rangeAt b 0 cs.toList:=fun j v hv=>by rw[AQ,h.cell];simpa using hv
 have:=run_loadVar_mid (P:=P) w b 0 ty cs.toList d h1 hu hd (by simpa using hi);simpa[lvR] using this
theorem Blk.ld {P:Program} {w:World} {b:Nat} {t ty:TypeId} {cs:Array Value} {d:TypeDesc} (h:Blk w b t cs) (hu:P.underlying ty=some d) (hd:d.isRow=true) (hi:(P.info? ty).map (·.size)=some cs.size):ldR P ty (.pointer (some ⟨b,0,none⟩)) w= .ok (.agg cs) w:=by
 have h1:w.rangeAt b 0 cs.toList:=fun j v hv=>by rw[AQ,h.cell];simpa using hv
 have:=run_loadAt_mid (P:=P) w b 0 ty cs.toList d h1 hu hd (by simpa using hi);simpa[ldR] using this
theorem Blk.st {P:Program} {w:World} {b:Nat} {t ty:TypeId} {cs I:Array Value} (h:Blk w b t cs) (hi:(P.info? ty).map (·.size)=some I.size) (ho:cs.size=I.size) (h1:I.all (·.oneCell')=true):stR P ty (.pointer (some ⟨b,0,none⟩)) (.agg I) w= .ok () (w.setRow b I):=by have:=run_storeVar_row (P:=P) w b t ty cs I h hi ho h1;unfold stR Instr.storeAt Instr.sureAddr;simp only[Sem.run_bind,Sem.run_pure,Result.andThen_ok];exact this
theorem Blk.st_same {P:Program} {w:World} {b:Nat} {t ty:TypeId} {cs:Array Value} (h:Blk w b t cs) (hi:(P.info? ty).map (·.size)=some cs.size) (h1:cs.all (·.oneCell')=true):stR P ty (.pointer (some ⟨b,0,none⟩)) (.agg cs) w= .ok () w:=by rw[h.st hi rfl h1,setRow_self w b cs t (0,0) h]
theorem q0y {P:Program} {fn:Func} {p u:Tmp} {ty:TypeId} (h:fn.results= #[.cell p ty,.tmp u]) (tmps:Array Value) (w:World) (a:Addr) (v x:Value) (hp:tmps.getD p undef= .pointer (some a)) (hx:tmps.getD u undef=x) (hl:lvR P ty a w= .ok v w):(results fn tmps).run P w= .ok (.tuple #[v,x]) w:=by rw[results_cell_tmp h,hp,hx];have e:(asAddr (.pointer (some a))).run P w= .ok a w:=rfl;have I:(loadVar ty a).run P w= .ok v w:=hl;rw[e];simp only[Result.andThen_ok,I]
theorem q8i {P:Program} {fn:Func} {p:Tmp} {ty:TypeId} (h:fn.results= #[.cell p ty]) (tmps:Array Value) (w:World) (a:Addr) (v:Value) (hp:tmps.getD p undef= .pointer (some a)) (hl:lvR P ty a w= .ok v w):(results fn tmps).run P w= .ok v w:=by
 have L:tmps[p]?.getD undef= .pointer (some a):=by simpa using hp
 have I:(loadVar ty a).run P w= .ok v w:=hl;simp[results,h,L,asAddr,I]
theorem Blk.ldAt {P:Program} {w:World} {b:Nat} {t ty:TypeId} {cs xs:Array Value} {d:TypeDesc} (h:Blk w b t cs) (o:Nat) (hx:∀j v,xs[j]?=some v->cs[o+j]?=some v) (hu:P.underlying ty=some d) (hd:d.isRow=true) (hi:(P.info? ty).map (·.size)=some xs.size):ldR P ty (.pointer (some ⟨b,o,none⟩)) w= .ok (.agg xs) w:=by
 have h1:w.rangeAt b o xs.toList:=fun j v hv=>by rw[h.cell];exact hx j v (by simpa using hv)
 have:=run_loadAt_mid (P:=P) w b o ty xs.toList d h1 hu hd (by simpa using hi);simpa[ldR] using this
theorem z3d {B:Nat} {f:List Nat} {W W':World} (ho:Only f W W') (hf:∀k∈f,k<B):KeepsFrom B W W':=⟨ho.size,fun i o hB hi _=>(ho.block i (AA.1 hi).1 (fun hm=>by have:=hf i hm;omega)).trans hi⟩
theorem v3i {K:Act->World->Prop} {t t':Array Value} {W:World} (h:K { tmps:=t,defers:=[] } W) (e:t'=t):K { tmps:=t',defers:=[] } W:=e▸h
theorem z3j {n:Nat} {P:Program} {fn:Func} {R:Ending->World->Prop} {t:Array Value} {D:Nat} {W:World} (v:Value) (h:W.heap[D]?=some (.deferred (some []))) (I:(results fn t).run P (W.putObj D (.deferred none))= .ok v (W.putObj D (.deferred none))) (hR:R (.returned v) (W.putObj D (.deferred none))):
  bodyPostM Fence.wide n P fn R Exit.ret { tmps:=t,defers:=[{ target:= .collected D,args:= #[] }] } W:=
 ⟨by simp,.inl ⟨_,_,rfl,run_takeDeferred h,⟨v,I,hR⟩⟩⟩
theorem q5e {w:World} {base:Nat} {e:TypeId} {size n:Nat} {v:Value} {xs:List Value} (h:w.ownsRow base e size v n xs):∀k,v.ownBlock=some k-> ∃cs t fr,w.heap[k]?=some (.cells cs t fr):=by
 intro k hk;rcases h.2 with⟨h1,_⟩|⟨g,cap,I,h1,h2,h3,_⟩;·rw[h1] at hk;cases hk
 ·rw[h1] at hk;have:g=k:=by simpa[Value.ownBlock] using hk
  subst this;exact⟨_,_,_,h3⟩
theorem z5e {w w':World} {base:Nat} {e:TypeId} {size n:Nat} {v:Value} {xs:List Value} {row:Option Nat} (h:w.ownsRow base e size v n xs) (hg:w.grownBy w' row) (I:∀r,row=some r-> ∃o:Obj,w.heap[r]?=some o/\o.isCells=false):w'.ownsRow base e size v n xs:=(Only.of_grown (f:=row.toList) hg (fun k hk=>by simp[hk])).own h (fun k hk hm=>by obtain⟨cs,t,fr,hc⟩:=q5e h k hk;obtain⟨o,ho,hn⟩:=I k (by simpa using hm);rw[hc] at ho;injection ho with ho;subst ho;cases hn)
end Go.Proofs.YtibiekfjbibpbaaGreat
