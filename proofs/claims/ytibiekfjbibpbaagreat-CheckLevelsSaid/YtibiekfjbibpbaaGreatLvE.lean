/- word.Get in range (over the squeezed texts alone: XWorM has the same). -/
import Derived.Test.YtibiekfjbibpbaaGreatWorM
set_option maxRecDepth 100000
set_option linter.unusedVariables false
set_option linter.unusedSimpArgs false
namespace Go.Proofs.YtibiekfjbibpbaaGreat
open Go.RowKit
theorem WPiece_z (b off n cap a:Nat) (hn:n≤9223372036854775807) (hcap:n≤cap) (ha:a+8≤n) (w:World):
  Calls Tryz.prog 167 #[.slice (some ⟨b,off,none⟩) n cap,.int .i64 (a:Int)] w fun e w'=>e= .returned (.slice (some ⟨b,off+a,none⟩) 8 8)∧w=w':=by
 have i1: ¬(a:Int)<0:=by omega
 have i2:IntKind.i64.wrap ((n:Int)-8)=(n:Int)-8:=IntWalk.i64_in _ (by omega)
 have i3: ¬(n:Int)-8< (a:Int):=by omega
 have i4:IntKind.i64.wrap ((a:Int)+8)=(a:Int)+8:=IntWalk.i64_in _ (by omega)
 have i5:(0:Int)≤(a:Int):=by omega
 have i6:(a:Int)≤(a:Int)+8:=by omega
 have i7:(a:Int)+8≤(cap:Int):=by omega
 have i8:((a:Int)+8).toNat=a+8:=by omega
 have i9:a+8-a=8:=by omega
 have i10: ¬(n:Int)< (a:Int)+8:=by omega
 have i11:(a:Int)+8≤(n:Int):=by omega
 have i12:(0:Int)≤(a:Int)+8:=by omega
 go_enter Tryz.func167,Tryz.ntmps167
 go_wp2
 go_ret
 refine⟨?_,rfl⟩
 first | rfl | (simp[i8,i9];done) | trace_state
theorem WGet_in (b off n cap a:Nat) (bs:List Int) (hbs:bs.length=n) (hn:n≤9223372036854775807) (hcap:n≤cap) (ha:a+8≤n) (w:World) (h:q1m w (some ⟨b,off,none⟩) cap bs):
  Calls Tryz.prog 85 #[.slice (some ⟨b,off,none⟩) n cap,.int .i64 (a:Int)] w fun e w'=>e= .returned (.tuple #[.int .u64 (leW ((bs.drop a).take 8)),.int .i64 0])∧w=w':=by
 have PI:=hid (WPiece_z b off n cap a hn hcap ha w)
 have hl:((bs.drop a).take 8).length=8:=by rw[List.length_take,List.length_drop];omega
 have TA:=hid (v5w ((bs.drop a).take 8) (some ⟨b,off+a,none⟩) 8 (by omega) w (h.cut a 8 (by omega)))
 rw[hl] at TA
 have hnil: ∀W:World,Sem.run Tryz.prog (binOp BinOp.eql 36 (.slice (some ⟨b,off+a,none⟩) 8 8) (.slice none 0 0)) W= .ok (.bool false) W:=fun W=>rfl
 clear h hl hn hcap ha hbs
 go_enter Tryz.func85,Tryz.ntmps85
 go_wp2_with fail
 refine PI.out.mono ?_
 rintro e w1 ⟨rfl,rfl⟩
 go_wp2_with fail
 refine TA.out.mono ?_
 rintro e w1 ⟨rfl,rfl⟩
 go_wp2
 refine bodyPost_ret (v:= .tuple #[.int .u64 (leW ((bs.drop a).take 8)),.int .i64 0]) (by simp[results,Tryz.results85,go_sem]) rfl ?_
 exact⟨rfl,rfl⟩
end Go.Proofs.YtibiekfjbibpbaaGreat
