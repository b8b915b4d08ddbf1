import Derived.Maps.AppendAt
import Derived.Test.YtjmaicckkkdjpaaGreatF43
/- slices.Clone at []uint64. -/
set_option maxRecDepth 100000
set_option maxHeartbeats 1000000
set_option linter.unusedVariables false
namespace Go.Proofs.YtjmaicckkkdjpaaGreat
open Go.RowKit
def FreshW (w:World) (n:Nat) (cs:List Value) (en:Ending) (w':World):Prop:=
 ∃v',en= .returned v'∧w'.ownsRow w.heap.size 25 1 v' n cs∧Below w.heap.size w w'
@[go_sem] theorem eqNilWords (a:Option Addr) (n c:Nat) (w:World):(binOp .eql 22 (.slice a n c) (.slice none 0 0)).run Tryz.prog w= .ok (.bool a.isNone) w:=by
 simp[binOp,run_equal_slice_nil w 22 25 a n c Tryz.underlying22]
theorem infoCW:(Tryz.prog.info? 25).map (fun i=>(i.zero,i.size,i.bytes))=some (some (.int .u64 0),1,8):=by kernel_rfl
theorem CloneW_nil (w:World):Calls Tryz.prog 92 #[.slice none 0 0] w fun e w'=>e= .returned (.slice none 0 0)∧w=w':=by
 go_enter Tryz.func92,Tryz.ntmps92
 go_wp2
 go_ret
 exact⟨rfl,rfl⟩
theorem CloneW_some (g n cap:Nat) (cs:List Value) (w:World) (hown:w.ownsRow 0 25 1 (.slice (some ⟨g,0,none⟩) n cap) n cs) (hn:n≤1000000) (h1: ∀v∈cs,v.oneCell'=true):
  Calls Tryz.prog 92 #[.slice (some ⟨g,0,none⟩) n cap] w (FreshW w n cs):=by
 obtain⟨i0,hi,hz0,hz1,hz2⟩:=info_parts infoCW
 have H3:=hid (show 0+n≤maxLen by unfold maxLen;omega)
 have H4:=hid (show(0+n)*8≤140737488355328 by omega)
 have HO:=hid h1
 have hl:=hown.1
 have hnews: ∀j u,cs[j]?=some u→(w.alloc (.cells #[] 25)).cell? ((⟨g,0,none⟩:Addr).add j)=some u:=fun j u hj=>ca _ (hown.cells (g:=g) rfl j u hj)
 have HN:=hid hnews
 have HL:=hid hl
 have hempty:(w.alloc (.cells #[] 25)).ownsRow w.heap.size 25 1 (.slice (some ⟨w.heap.size,0,none⟩) 0 0) 0 []:=by
  have:=World.ownsRow_lit (base:=w.heap.size) (e:=25) (size:=1) w #[] 0 (Nat.le_refl _) (Nat.zero_le _) rfl
  simpa using this
 have HE:=hid hempty
 clear hempty hnews hl hown h1
 go_enter Tryz.func92,Tryz.ntmps92
 go_wp2_with (at_builtin;refine wpList_append_own_at _ rfl _ _ 22 rfl w.heap.size 25 i0 (.int .u64 0) 1 8 Tryz.underlying22 hi hz0 hz1 hz2 rfl (by decide) (.slice (some ⟨w.heap.size,0,none⟩) 0 0) 0 [] rfl HE.out ⟨g,0,none⟩ n cap cs rfl HL.out HN.out HO.out H3.out H4.out (by simp) ?_;intro v' w1 hown' hgrow _ hat)
 go_ret
 refine⟨_,rfl,by simpa using hown',?_⟩
 exact((Below.refl _ w).alloc (Nat.le_refl _) _).grown hgrow (by simp) (fun k hk=>by have:w.heap.size=k:=by simpa[Value.ownBlock] using hk
                                                                                     omega)
theorem CloneW_row (v:Value) (n:Nat) (cs:List Value) (w:World) (hown:w.ownsRow 0 25 1 v n cs) (hn:n≤1000000) (h1: ∀v∈cs,v.oneCell'=true):
  Calls Tryz.prog 92 #[v] w (FreshW w n cs):=by
 rcases hown.2 with⟨rfl,rfl⟩ | ⟨g,cap,cur,rfl,_⟩
 ·refine(CloneW_nil w).mono fun e w' ⟨he,hw⟩=> ?_
  subst hw
  have:cs=[]:=List.eq_nil_of_length_eq_zero (by simpa using hown.1)
  subst this
  exact⟨_,he,World.ownsRow_nil _ _ _ _,Below.refl _ _⟩
 ·exact CloneW_some g n cap cs w hown hn h1
end Go.Proofs.YtjmaicckkkdjpaaGreat
