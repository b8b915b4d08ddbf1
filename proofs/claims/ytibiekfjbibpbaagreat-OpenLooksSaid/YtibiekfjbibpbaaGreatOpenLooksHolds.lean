import Derived.Test.YtibiekfjbibpbaaGreatOpensV
set_option maxRecDepth 100000
set_option linter.unusedVariables false
namespace Go.Proofs.YtibiekfjbibpbaaGreat.openLooks
open Go.ChangeShapes Go.WideShapes Go.ChangeAt Go.RowKit Go.Joins
theorem own:ownKnob Tryz.prog.godebug=none:=by kernel_rfl
theorem v5z:laidOutB Tryz.prog=true:=by kernel_rfl
theorem v8z (os:Os) (started:os.Started) (H:Type) (enc:TypeId×Value->H):
  ReturnsInHanded {} Tryz.checked os 9 .any (Rows.openLooksSpec.pre6 enc Tryz.prog Tryz.f9 Rows.openLooksRow.domain false) (Rows.openLooksSpec.post enc Tryz.prog Tryz.f9 false true false false):=by
 refine returnsInHanded_of_change (C:=Tryz.checked) own started (by kernel_rfl) Tryz.func9
  (ChangeSpec.witness6 (enc:=enc) (C:=Tryz.checked) false ⟨#[],#[.agg #[.int .i64 0,.slice none 0 0,.int .i64 0,.int .i64 0,.slice none 0 0]],[]⟩ 8 (by kernel_rfl) (by kernel_rfl) (by kernel_rfl) (by kernel_rfl)) ?_
 intro W base args ds gs before I hW h5 _;have L:∀(j:Nat) t v,Tryz.f9.params[j]?=some t->args[j]?=some v->Value.okWide Tryz.prog W .any base t v:=I;have h4:=hW;obtain⟨p,q,U,hV,rfl,hi,hh⟩:=hW;have hA:DataW.TrodAll enc Tryz.prog W 0 (fun _=>true) true Tryz.f9.params.toList args.toList ds p:=U;rw[Tryz.params9] at hA L;obtain⟨v0,hk,d0,hj,p0,q0,Y,rfl,rfl,h0,r0⟩:=trodAll_cons hA;obtain⟨rfl,rfl,rfl⟩:=trodAll_nil r0;obtain rfl:args= #[v0]:=by cases args;simp_all
 obtain⟨rfl,rfl⟩:=trodVars_none hV;have k0:=h0;have h3:∀x∈p0,x.block<W.heap.size:=by obtain⟨m,hm⟩:=k0;exact DataW.trod_lt m _ _ _ hm
 obtain⟨x0,kv0,h1,hg,h2,rfl,hf,ha,h9,S,O,M,h6,h8,h7⟩:=x3r (L 0 83 v0 rfl rfl) h0;clear U I;refine(x0z x0 kv0 h1 hg h2 W hf ha h9 S O M h6 h8 h7).mono fun e W' ⟨he,bel⟩=> ?_;subst he;exact⟨_,rfl,_,_,_,[],_,[],h4,trodAll_mk1 (shut_bool Tryz.underlying4 _),(trodAll_cons_mk (Below.trod v5z (by kernel_rfl) (of_decide_eq_true (by kernel_rfl)) k0 bel h3) trodAll_mk0),rfl,bel.frame _,fun h=>by cases h⟩
theorem over:Rows.openLooksRow.holds Tryz.pinned (OpenSpec.ofChange Rows.openLooksSpec):=
 OpenClaim.holds_of_wide 9 Tryz.f9 rfl rfl rfl rfl rfl rfl rfl ⟨rfl,rfl,rfl,rfl,rfl⟩ rfl rfl rfl rfl rfl (by kernel_rfl) Tryz.func9 (by kernel_rfl)
  (of_decide_eq_true (by kernel_rfl)) (by unfold Func.isWrapper;first|(rw[if_pos (by decide+kernel)];kernel_rfl)|(rw[if_neg (by decide+kernel)];exact⟨rfl,rfl⟩))
  (fun os started H enc _=>v8z os started H enc)
theorem proved:Rows.OpenLooksSaid:=over
#print axioms proved
end Go.Proofs.YtibiekfjbibpbaaGreat.openLooks
