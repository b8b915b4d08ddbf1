/- Maps whose keys are addresses: looked up, turned, let go. Of no program. -/
import Derived.Test.YtibiekfjbibpbaaGreatRow
import Derived.Carry
import Derived.MapKept
import Derived.RangeFuncRecord
set_option linter.unusedVariables false
set_option linter.unusedSimpArgs false
namespace Go.Proofs.YtibiekfjbibpbaaGreat
open Go.RowKit
section
variable {P:Program}
theorem run_check_u64 (w:World) (kt:TypeId) (hk:P.underlying kt=some (.int .u64)) (k:Int) (b:Bool) (n:Nat):(Instr.checkKey b (n+1) kt (.int .u64 k)).run P w= .ok () w:=by
 unfold Instr.checkKey
 simp[run_underlying hk,Result.andThen]
theorem findU_none {k:Int}: ∀{es:List MapEntry} {i:Nat},(∀e∈es,∃x,e.key= .int .u64 x∧x≠k)→Instr.findNow (.int .u64) (.int .u64 k) es i=some none
 | [],i,_=>rfl
 | e::es,i,h=>by
  obtain⟨x,hx,hne⟩:=h e (List.mem_cons_self ..)
  unfold Instr.findNow
  rw[hx]
  have hb:(k==x)=false:=by simpa using fun hc:k=x=>hne hc.symm
  simp only[Instr.sameNow,if_true,hb]
  exact findU_none fun e he=>h e (List.mem_cons_of_mem _ he)
theorem findU_at {k:Int} {e:MapEntry} {post:List MapEntry} (he:e.key= .int .u64 k): ∀{pre:List MapEntry} {i:Nat},(∀e∈pre,∃x,e.key= .int .u64 x∧x≠k)→Instr.findNow (.int .u64) (.int .u64 k) (pre++e::post) i=some (some (i+pre.length,e.val))
 | [],i,_=>by
  unfold Instr.findNow
  simp[he,Instr.sameNow]
 | d::pre,i,h=>by
  obtain⟨x,hx,hne⟩:=h d (List.mem_cons_self ..)
  rw[List.cons_append]
  unfold Instr.findNow
  rw[hx]
  have hb:(k==x)=false:=by simpa using fun hc:k=x=>hne hc.symm
  simp only[Instr.sameNow,if_true,hb]
  rw[findU_at he fun e he=>h e (List.mem_cons_of_mem _ he)]
  simp;omega
theorem run_findU {w:World} {kt:TypeId} (hk:P.underlying kt=some (.int .u64)) {k:Int} {es:List MapEntry} {r:Option (Nat×Value)} (hf:Instr.findNow (.int .u64) (.int .u64 k) es 0=some r):(Instr.findKey kt (.int .u64 k) es).run P w= .ok r w:=by
 unfold Instr.findKey
 simp[run_underlying hk,hf,Result.andThen]
theorem run_updU_new (w:World) (t kt vt:TypeId) (hu:P.underlying t=some (.map kt vt)) (hk:P.underlying kt=some (.int .u64)) (r:Nat) (es:Array MapEntry) (clock:Nat) (hb:w.heap[r]?=some (.map es clock)) (k:Int) (v:Value)
  (hf:Instr.findNow (.int .u64) (.int .u64 k) es.toList 0=some none):
  (Instr.mapUpdate t (.map (some r)) (.int .u64 k) v).run P w= .ok () (w.putObj r (.map (es.push { key:= .int .u64 k,val:=v,born:=clock }) (clock+1))):=by
 have hg:(getObj r).run P w= .ok (.map es clock) w:=by simp[getObj,Sem.run,hb]
 have hs:(setObj r (.map (es.push { key:= .int .u64 k,val:=v,born:=clock }) (clock+1))).run P w= .ok () (w.putObj r (.map (es.push { key:= .int .u64 k,val:=v,born:=clock }) (clock+1))):=by simp[setObj,Sem.run,hb,World.putObj]
 have hc:=run_check_u64 w kt hk k false 9999
 have hfk:=run_findU (w:=w) hk hf
 unfold Instr.mapUpdate
 simp only[Sem.run_bind,run_underlying hu,hg,hc,hfk,hs,Result.andThen]
theorem run_updU_old (w:World) (t kt vt:TypeId) (hu:P.underlying t=some (.map kt vt)) (hk:P.underlying kt=some (.int .u64)) (r:Nat) (es:Array MapEntry) (clock:Nat) (hb:w.heap[r]?=some (.map es clock)) (k:Int) (v:Value) (i:Nat) (v0:Value)
  (hf:Instr.findNow (.int .u64) (.int .u64 k) es.toList 0=some (some (i,v0))) (hi:(es[i]?).map (·.key)=some (.int .u64 k)):
  (Instr.mapUpdate t (.map (some r)) (.int .u64 k) v).run P w= .ok () (w.putObj r (.map (es.modify i fun e=>{ e with key:= .int .u64 k,val:=v }) clock)):=by
 have hg:(getObj r).run P w= .ok (.map es clock) w:=by simp[getObj,Sem.run,hb]
 have hs:(setObj r (.map (es.modify i fun e=>{ e with key:= .int .u64 k,val:=v }) clock)).run P w= .ok () (w.putObj r (.map (es.modify i fun e=>{ e with key:= .int .u64 k,val:=v }) clock)):=by simp[setObj,Sem.run,hb,World.putObj]
 have hc:=run_check_u64 w kt hk k false 9999
 have hfk:=run_findU (w:=w) hk hf
 have hst:(Instr.keyThatStays (.int .u64 k) (.int .u64 k)).run P w= .ok (.int .u64 k) w:=by
  unfold Instr.keyThatStays
  simp[Instr.sameBits]
 unfold Instr.mapUpdate
 simp only[Sem.run_bind,run_underlying hu,hg,hc,hfk,hi,Option.getD_some,hst,hs,Result.andThen]
theorem run_lookU_some (w:World) (t kt vt:TypeId) (hu:P.underlying t=some (.map kt vt)) (hk:P.underlying kt=some (.int .u64)) (r:Nat) (es:Array MapEntry) (clock:Nat) (hb:w.heap[r]?=some (.map es clock)) (k:Int) (i:Nat) (v:Value) (ok:Bool)
  (hf:Instr.findNow (.int .u64) (.int .u64 k) es.toList 0=some (some (i,v))):
  (Instr.lookup t (.map (some r)) (.int .u64 k) ok).run P w= .ok (if ok then .tuple #[v,.bool true] else v) w:=by
 have hg:(getObj r).run P w= .ok (.map es clock) w:=by simp[getObj,Sem.run,hb]
 have hc:=fun b=>run_check_u64 (P:=P) w kt hk k b 9999
 have hfk:=run_findU (w:=w) hk hf
 unfold Instr.lookup
 simp only[Sem.run_bind,run_underlying hu,hg,hc,hfk,Result.andThen,Sem.run_pure]
theorem run_lookU_none (w:World) (t kt vt:TypeId) (hu:P.underlying t=some (.map kt vt)) (hk:P.underlying kt=some (.int .u64)) (r:Nat) (es:Array MapEntry) (clock:Nat) (hb:w.heap[r]?=some (.map es clock)) (k:Int) (z:Value) (ok:Bool)
  (hz:(P.info? vt).bind (·.zero)=some z) (hf:Instr.findNow (.int .u64) (.int .u64 k) es.toList 0=some none):
  (Instr.lookup t (.map (some r)) (.int .u64 k) ok).run P w= .ok (if ok then .tuple #[z,.bool false] else z) w:=by
 have hg:(getObj r).run P w= .ok (.map es clock) w:=by simp[getObj,Sem.run,hb]
 have hc:=fun b=>run_check_u64 (P:=P) w kt hk k b 9999
 have hfk:=run_findU (w:=w) hk hf
 have hzv:(zeroValue vt).run P w= .ok z w:=by
  cases hi:P.info? vt with
  | none=>rw[hi] at hz;cases hz
  | some i=>rw[hi] at hz;have hz:i.zero=some z:=hz;simp[zeroValue,typeInfo,program,Sem.run,hi,hz]
 unfold Instr.lookup
 simp only[Sem.run_bind,run_underlying hu,hg,hc,hfk,hzv,Result.andThen,Sem.run_pure]
theorem run_delU (w:World) (t kt vt k2 ty:TypeId) (hu:P.underlying t=some (.map kt vt)) (hk:P.underlying kt=some (.int .u64)) (r:Nat) (es:Array MapEntry) (clock:Nat) (hb:w.heap[r]?=some (.map es clock)) (k:Int) (i:Nat) (v:Value)
  (hf:Instr.findNow (.int .u64) (.int .u64 k) es.toList 0=some (some (i,v))):
  (Builtin.delete_ #[t,k2] ty #[.map (some r),.int .u64 k]).run P w= .ok (.tuple #[]) (w.putObj r (.map (es.eraseIdxIfInBounds i) clock)):=by
 have hg:(getObj r).run P w= .ok (.map es clock) w:=by simp[getObj,Sem.run,hb]
 have hs:(setObj r (.map (es.eraseIdxIfInBounds i) clock)).run P w= .ok () (w.putObj r (.map (es.eraseIdxIfInBounds i) clock)):=by simp[setObj,Sem.run,hb,World.putObj]
 have hc:=fun b=>run_check_u64 (P:=P) w kt hk k b 9999
 have hfk:=run_findU (w:=w) hk hf
 unfold Builtin.delete_
 simp only[List.getElem?_toArray,List.getElem?_cons_zero,List.getElem?_cons_succ,Sem.run_bind,run_underlying hu,hg,hc,hfk,hs,Result.andThen,Sem.run_pure]
theorem putObj_at {w:World} {r:Nat} {o o':Obj} (h:w.heap[r]?=some o):(w.putObj r o').heap[r]?=some o':=by
 have hlt:r<w.heap.size:=(Array.getElem?_eq_some_iff.1 h).1
 simp[World.putObj,hlt]
theorem Blk.putObj {w:World} {g r:Nat} {t:TypeId} {cs:Array Value} (h:Blk w g t cs) (hne:g≠r) (o:Obj):Blk (w.putObj r o) g t cs:=(World.putObj_heap_other (by first | exact hne | exact fun e=>hne e.symm)).trans h
theorem Only.putObj {f:List Nat} {a b:World} (h:Only f a b) {r:Nat} (hr:r∈f∨a.heap.size≤r) (o:Obj):Only f a (b.putObj r o):=
 ⟨h.os,h.tape,h.output,by simpa[World.putObj] using h.size,fun x hx hn=>(World.putObj_heap_other (fun e=>by subst e;rcases hr with hr | hr;exact hn hr;omega)).trans (h.block x hx hn)⟩
end
end Go.Proofs.YtibiekfjbibpbaaGreat
