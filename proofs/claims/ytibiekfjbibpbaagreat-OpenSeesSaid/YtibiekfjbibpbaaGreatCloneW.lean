import Derived.Test.YtibiekfjbibpbaaGreatRow
set_option maxRecDepth 100000
set_option maxHeartbeats 1000000
set_option linter.unusedVariables false
namespace Go.Proofs.YtibiekfjbibpbaaGreat
open Go.RowKit
def x7t (w:World) (n:Nat) (cs:List Value) (en:Ending) (w':World):Prop:=∃v',en= .returned v'/\w'.ownsRow w.heap.size 46 1 v' n cs/\Below w.heap.size w w'
@[go_sem] theorem v7n (a:Option Addr) (n c:Nat) (w:World):(binOp .eql 22 (.slice a n c) (.slice none 0 0)).run Tryz.prog w= .ok (.bool a.isNone) w:=by simp[binOp,run_equal_slice_nil w 22 46 a n c Tryz.underlying22]
theorem v3a:(Tryz.prog.info? 46).map (fun i=>(i.zero,i.size,i.bytes))=some (some (.int .u64 0),1,8):=by kernel_rfl
theorem x3t (w:World):Calls Tryz.prog 107 #[.slice none 0 0] w fun e w'=>e= .returned (.slice none 0 0)/\w=w':=by go_enter Tryz.func107,Tryz.ntmps107;go_wp2;go_ret;exact⟨rfl,rfl⟩
theorem z9g (g n cap:Nat) (cs:List Value) (w:World) (M:w.ownsRow 0 46 1 (.slice (some ⟨g,0,none⟩) n cap) n cs) (hn:n<=1000000) (h1:∀v∈cs,v.oneCell'=true):
  Calls Tryz.prog 107 #[.slice (some ⟨g,0,none⟩) n cap] w (x7t w n cs):=by
 obtain⟨i0,hi,U,h2,Y⟩:=info_parts v3a;have H3:=hid (show 0+n<=maxLen by unfold maxLen;omega);have H4:=hid (show(0+n)*8<=140737488355328 by omega);have HO:=hid h1;have hl:=M.1;have L:∀j u,cs[j]?=some u->(w.alloc (.cells #[] 46)).cell? ((⟨g,0,none⟩:Addr).add j)=some u:=fun j u hj=>ca _ (M.cells (g:=g) rfl j u hj);have HN:=hid L;have HL:=hid hl;have I:(w.alloc (.cells #[] 46)).ownsRow w.heap.size 46 1 (.slice (some ⟨w.heap.size,0,none⟩) 0 0) 0 []:=by have:=World.ownsRow_lit (base:=w.heap.size) (e:=46) (size:=1) w #[] 0 (AG _) (Af _) rfl;simpa using this
 have HE:=hid I;clear I L hl M h1;go_enter Tryz.func107,Tryz.ntmps107;go_wp2_with (at_builtin;refine wpList_append_own_at _ rfl _ _ 22 rfl w.heap.size 46 i0 (.int .u64 0) 1 8 Tryz.underlying22 hi U h2 Y rfl (by decide) (.slice (some ⟨w.heap.size,0,none⟩) 0 0) 0 [] rfl HE.out ⟨g,0,none⟩ n cap cs rfl HL.out HN.out HO.out H3.out H4.out (by simp) ?_;intro v' w1 O S _ h3);go_ret;refine⟨_,rfl,by simpa using O,?_⟩
 exact((Below.refl _ w).alloc (AG _) _).grown S (by simp) (fun k hk=>by
   have:w.heap.size=k:=by simpa[Value.ownBlock] using hk
   omega)
theorem x3j (v:Value) (n:Nat) (cs:List Value) (w:World) (I:w.ownsRow 0 46 1 v n cs) (hn:n<=1000000) (h1:∀v∈cs,v.oneCell'=true):
  Calls Tryz.prog 107 #[v] w (x7t w n cs):=by
 rcases I.2 with⟨rfl,rfl⟩|⟨g,cap,L,rfl,_⟩;·refine(x3t w).mono fun e w' ⟨he,hw⟩=> ?_;subst hw;have:cs=[]:=BC (by simpa using I.1);subst this;exact⟨_,he,World.ownsRow_nil _ _ _ _,Below.refl _ _⟩
 ·exact z9g g n cap cs w I hn h1
end Go.Proofs.YtibiekfjbibpbaaGreat
