/- The kit's walk tactics and laws, together; a struct loaded and stored whole, kept shut. -/
import Derived.Test.YtibiekfjbibpbaaGreatRow
import Derived.Test.YtibiekfjbibpbaaGreatAppM
import Derived.Test.YtibiekfjbibpbaaGreatPmM
import Derived.Deep.Cut
import Derived.RegionTactic
import Derived.Deep.RegionWith
import Derived.Deep.RegionLaw
import Derived.Deep.QuietTactic
import Derived.Deep.RegionHeld3
import Derived.BigQuiet
import Derived.StillTailTactics
import Derived.WalkMore
import Derived.MapKept
import Derived.Maps.RangeRun
import Derived.Maps.AppendAt
import Derived.RangeFuncLeaves
import Derived.RangeFuncNested
import Derived.Stop.RegionWithIn
import Derived.TacticsInMore
import Derived.WalkLawsBesides
import Derived.Deep.MidRow
import Derived.Laws.CopyRow
import Derived.Laws.Tables
import Derived.Laws.ResultCell
import Derived.Laws.Rows
import Derived.RangeFuncWrites
set_option linter.unusedVariables false
set_option linter.unusedSimpArgs false
namespace Go.Proofs.YtibiekfjbibpbaaGreat
open Go.RowKit
def ldR (P:Program) (t:TypeId) (v:Value) (w:World):Result Value:=(Instr.loadAt t v).run P w
def lvR (P:Program) (t:TypeId) (a:Addr) (w:World):Result Value:=(loadVar t a).run P w
def stR (P:Program) (t:TypeId) (p v:Value) (w:World):Result Unit:=(Instr.storeAt t p v).run P w
def ldM (t:TypeId) (v:Value):Sem Value:=Instr.loadAt t v
def lvM (t:TypeId) (a:Addr):Sem Value:=loadVar t a
def stM (t:TypeId) (p v:Value):Sem Unit:=Instr.storeAt t p v
theorem ldM_run (P:Program) (t:TypeId) (v:Value) (w:World):(ldM t v).run P w=ldR P t v w:=rfl
theorem lvM_run (P:Program) (t:TypeId) (a:Addr) (w:World):(lvM t a).run P w=lvR P t a w:=rfl
theorem stM_run (P:Program) (t:TypeId) (p v:Value) (w:World):(stM t p v).run P w=stR P t p v w:=rfl
theorem Blk.lv {P:Program} {w:World} {b:Nat} {t ty:TypeId} {cs:Array Value} {d:TypeDesc} (h:Blk w b t cs) (hu:P.underlying ty=some d) (hd:d.isRow=true) (hi:(P.info? ty).map (·.size)=some cs.size):lvR P ty ⟨b,0,none⟩ w= .ok (.agg cs) w:=by
 have h1:w.rangeAt b 0 cs.toList:=fun j v hv=>by
  rw[Nat.zero_add,h.cell]
  simpa using hv
 have:=run_loadVar_mid (P:=P) w b 0 ty cs.toList d h1 hu hd (by simpa using hi)
 simpa[lvR] using this
theorem Blk.ld {P:Program} {w:World} {b:Nat} {t ty:TypeId} {cs:Array Value} {d:TypeDesc} (h:Blk w b t cs) (hu:P.underlying ty=some d) (hd:d.isRow=true) (hi:(P.info? ty).map (·.size)=some cs.size):ldR P ty (.pointer (some ⟨b,0,none⟩)) w= .ok (.agg cs) w:=by
 have h1:w.rangeAt b 0 cs.toList:=fun j v hv=>by
  rw[Nat.zero_add,h.cell]
  simpa using hv
 have:=run_loadAt_mid (P:=P) w b 0 ty cs.toList d h1 hu hd (by simpa using hi)
 simpa[ldR] using this
theorem Blk.st {P:Program} {w:World} {b:Nat} {t ty:TypeId} {cs cs':Array Value} (h:Blk w b t cs) (hi:(P.info? ty).map (·.size)=some cs'.size) (ho:cs.size=cs'.size) (h1:cs'.all (·.oneCell')=true):stR P ty (.pointer (some ⟨b,0,none⟩)) (.agg cs') w= .ok () (w.setRow b cs'):=by
 have:=run_storeVar_row (P:=P) w b t ty cs cs' h hi ho h1
 unfold stR Instr.storeAt Instr.sureAddr
 simp only[Sem.run_bind,Sem.run_pure,Result.andThen_ok]
 exact this
theorem Blk.st_same {P:Program} {w:World} {b:Nat} {t ty:TypeId} {cs:Array Value} (h:Blk w b t cs) (hi:(P.info? ty).map (·.size)=some cs.size) (h1:cs.all (·.oneCell')=true):stR P ty (.pointer (some ⟨b,0,none⟩)) (.agg cs) w= .ok () w:=by
 rw[h.st hi rfl h1,setRow_self w b cs t (0,0) h]
theorem results_cellv_tmp {P:Program} {fn:Func} {p u:Tmp} {ty:TypeId} (h:fn.results= #[.cell p ty,.tmp u]) (tmps:Array Value) (w:World) (a:Addr) (v x:Value) (hp:tmps.getD p undef= .pointer (some a)) (hx:tmps.getD u undef=x) (hl:lvR P ty a w= .ok v w):(results fn tmps).run P w= .ok (.tuple #[v,x]) w:=by
 rw[results_cell_tmp h,hp,hx]
 have e:(asAddr (.pointer (some a))).run P w= .ok a w:=rfl
 have hl':(loadVar ty a).run P w= .ok v w:=hl
 rw[e]
 simp only[Result.andThen_ok,hl']
theorem results_cellv {P:Program} {fn:Func} {p:Tmp} {ty:TypeId} (h:fn.results= #[.cell p ty]) (tmps:Array Value) (w:World) (a:Addr) (v:Value) (hp:tmps.getD p undef= .pointer (some a)) (hl:lvR P ty a w= .ok v w):(results fn tmps).run P w= .ok v w:=by
 have hp':tmps[p]?.getD undef= .pointer (some a):=by simpa using hp
 have hl':(loadVar ty a).run P w= .ok v w:=hl
 simp[results,h,hp',asAddr,hl']
theorem Blk.ldAt {P:Program} {w:World} {b:Nat} {t ty:TypeId} {cs xs:Array Value} {d:TypeDesc} (h:Blk w b t cs) (o:Nat) (hx: ∀j v,xs[j]?=some v→cs[o+j]?=some v) (hu:P.underlying ty=some d) (hd:d.isRow=true) (hi:(P.info? ty).map (·.size)=some xs.size):ldR P ty (.pointer (some ⟨b,o,none⟩)) w= .ok (.agg xs) w:=by
 have h1:w.rangeAt b o xs.toList:=fun j v hv=>by
  rw[h.cell]
  exact hx j v (by simpa using hv)
 have:=run_loadAt_mid (P:=P) w b o ty xs.toList d h1 hu hd (by simpa using hi)
 simpa[ldR] using this
theorem keepsFrom_only {B:Nat} {f:List Nat} {W W':World} (ho:Only f W W') (hf: ∀k∈f,k<B):KeepsFrom B W W':=
 ⟨ho.size,fun i o hB hi _=>(ho.block i (Array.getElem?_eq_some_iff.1 hi).1 (fun hm=>by have:=hf i hm;omega)).trans hi⟩
theorem act_eq {K:Act→World→Prop} {t t':Array Value} {W:World} (h:K { tmps:=t,defers:=[] } W) (e:t'=t):K { tmps:=t',defers:=[] } W:=e▸h
theorem postM_ret {n:Nat} {P:Program} {fn:Func} {R:Ending→World→Prop} {t:Array Value} {D:Nat} {W:World} (v:Value) (h:W.heap[D]?=some (.deferred (some []))) (hres:(results fn t).run P (W.putObj D (.deferred none))= .ok v (W.putObj D (.deferred none))) (hR:R (.returned v) (W.putObj D (.deferred none))):
  bodyPostM Fence.wide n P fn R Exit.ret { tmps:=t,defers:=[{ target:= .collected D,args:= #[] }] } W:=
 ⟨by simp,.inl ⟨_,_,rfl,run_takeDeferred h,⟨v,hres,hR⟩⟩⟩
theorem own_cells {w:World} {base:Nat} {e:TypeId} {size n:Nat} {v:Value} {xs:List Value} (h:w.ownsRow base e size v n xs): ∀k,v.ownBlock=some k→ ∃cs t fr,w.heap[k]?=some (.cells cs t fr):=by
 intro k hk
 rcases h.2 with⟨h1,_⟩ | ⟨g,cap,cur,h1,h2,h3,_⟩
 ·rw[h1] at hk;cases hk
 ·rw[h1] at hk
  have:g=k:=by simpa[Value.ownBlock] using hk
  subst this
  exact⟨_,_,_,h3⟩
theorem own_keep {w w':World} {base:Nat} {e:TypeId} {size n:Nat} {v:Value} {xs:List Value} {row:Option Nat} (h:w.ownsRow base e size v n xs) (hg:w.grownBy w' row) (hrow: ∀r,row=some r→ ∃o:Obj,w.heap[r]?=some o∧o.isCells=false):w'.ownsRow base e size v n xs:=
 (Only.of_grown (f:=row.toList) hg (fun k hk=>by simp[hk])).own h (fun k hk hm=>by
  obtain⟨cs,t,fr,hc⟩:=own_cells h k hk
  obtain⟨o,ho,hn⟩:=hrow k (by simpa using hm)
  rw[hc] at ho
  injection ho with ho
  subst ho
  cases hn)
end Go.Proofs.YtibiekfjbibpbaaGreat
